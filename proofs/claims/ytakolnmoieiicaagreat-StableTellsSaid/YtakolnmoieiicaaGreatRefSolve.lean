/- The document's Is at any network that is small (it may be wrong), any destination and any routes. The document's Solve at a network that may be and a destination that is. -/
import Derived.Test.YtakolnmoieiicaaGreatRefStep
import Derived.Test.YtakolnmoieiicaaGreatBadS
import Derived.Test.YtakolnmoieiicaaGreatRef9
namespace Go.Proofs.YtakolnmoieiicaaGreat
set_option linter.unusedSimpArgs false
set_option linter.unusedVariables false
open Go.RowKit

section
theorem ris_gen (p : Net) (h : Hd) (f d : Int) (Z : List RtZ) (A : Option Addr) (c : Nat) (w : World) (hp : NetR w w.heap.size p h) (hs : Small p) (hl : RtsR w w.heap.size Z A) :
    Calls Tryz.prog 15 #[netV p h, .int .i64 f, .int .i64 d, .slice A Z.length c] w fun e w' => ∃ b : Bool, e = .returned (.bool b) ∧ (b = true → IsQ p f d (Z.map (·.1))) ∧ (b = false → ¬ ∃ l : St, Z.map (·.1) = stL p l ∧ FitsF p l ∧ thereB p d = true ∧ stL p l = stL p (stepF p f d l)) ∧ Below w.heap.size w w' := by
  by_cases hq : thereB p d = true ∧ FitsQ p (Z.map (·.1))
  · obtain ⟨ht, hq⟩ := hq
    obtain ⟨l, hZ, hf⟩ := hq.st
    have hd : placeB d p.dests.length = true := by
      have : (rightB p && placeB d p.dests.length) = true := ht
      rw [Bool.and_eq_true] at this
      exact this.2
    refine (ris_any p h f d l Z A c w hp (hq.good hs) hd hl hZ hf).mono ?_
    rintro e w' ⟨rfl, hb⟩
    refine ⟨_, rfl, fun h1 => ⟨ht, hq, l, hZ, hf, (of_decide_eq_true h1).symm⟩, ?_, hb⟩
    rintro h1 ⟨m, hm, -, -, he⟩
    refine of_decide_eq_false h1 ?_
    have hlm : stL p l = stL p m := hZ.symm.trans hm
    have hst : stL p (stepF p f d l) = stL p (stepF p f d m) := stL_step (hq.good hs).lksOk hlm
    rw [hlm, hst]; exact he.symm
  · refine (ris_bad p h f d Z A c w hp hs hl ?_).mono ?_
    · by_cases ht : thereB p d = true
      · exact .inr fun h => hq ⟨ht, h⟩
      · exact .inl (by simpa using ht)
    · rintro e w' ⟨rfl, hb⟩
      refine ⟨false, rfl, (fun h => by cases h), ?_, hb⟩
      rintro - ⟨m, hm, hf, ht, -⟩
      refine hq ⟨ht, ?_⟩
      rw [hm]
      have : (rightB p && placeB d p.dests.length) = true := ht
      rw [Bool.and_eq_true] at this
      exact FitsQ.of this.1 hf
/-- What both tell is the same. -/
theorem is_same {p : Net} {f d : Int} {L : List Rt} {a b : Bool} (a1 : a = true → IsQ p f d L) (a0 : a = false → ¬ ∃ l : St, L = stL p l ∧ FitsF p l ∧ thereB p d = true ∧ stL p l = stL p (stepF p f d l)) (b1 : b = true → IsQ p f d L) (b0 : b = false → ¬ ∃ l : St, L = stL p l ∧ FitsF p l ∧ thereB p d = true ∧ stL p l = stL p (stepF p f d l)) : a = b := by
  cases a <;> cases b <;> try rfl
  · obtain ⟨ht, -, l, h1, h2, h3⟩ := b1 rfl
    exact absurd ⟨l, h1, h2, ht, h3⟩ (a0 rfl)
  · obtain ⟨ht, -, l, h1, h2, h3⟩ := a1 rfl
    exact absurd ⟨l, h1, h2, ht, h3⟩ (b0 rfl)
end

section
set_option maxRecDepth 100000 in
set_option maxHeartbeats 4000000 in
theorem rsolve_any (p : Net) (h : Hd) (f d b : Int) (R : Nat) (w : World) (hp : NetR w w.heap.size p h) (hg : Good p) (hd : placeB d p.dests.length = true) (hS : Stop p f d R) (hR : R ≤ p.nodes.length) :
    Calls Tryz.prog 11 #[netV p h, .int .i64 f, .int .i64 d, .int .i64 b] w (SolvePost p f d b R w) := by
  have HA := Lib.hid (AtRight.begin hp)
  have HG := Lib.hid hg
  have HD := Lib.hid hd
  have HS := Lib.hid hS
  have hn12 := hg.n12
  have hR12 : R ≤ 12 := by omega
  clear hp hg hd hS hR
  unfold netV netVal
  go_enter Tryz.func11, Tryz.ntmps11
  go_wp2_with fail
  refine (rstart_any p h d _ HA.out.net HG.out HD.out).mono ?_
  rintro e w1 ⟨Y, A1, c1, rfl, hY, hLW⟩
  have HA1 := Lib.hid (HA.out.call hLW.below)
  have HY := Lib.hid hY
  have LY := Lib.hid hLW
  have hY12 : 0 < Y.length ∧ Y.length ≤ 12 := by have := congrArg List.length hY; rw [List.length_map, stL_len] at this; omega
  have hY0 : ((Y.length : Int) == 0) = false := by rw [beq_eq_false_iff_ne]; omega
  have NG := Lib.hid HG.out.netG
  clear hY hLW hn12
  go_wp2_with fail
  clear hY0 hY12
  go_loopw [11, 12] (fun sl si wx => ∃ (r : Nat) (Z : List RtZ) (A : Option Addr) (c : Nat), r ≤ R ∧ si = .int .i64 r ∧ sl = .slice A Z.length c ∧ Z.map (·.1) = stL p (runF p f d r) ∧ LW w wx Z A c ∧ Below w1.heap.size w1 wx) (fun _ si _ => R - (intOf si).toNat)
  case atStart => exact ⟨0, Y, A1, c1, Nat.zero_le _, rfl, rfl, HY.out, LY.out.since ((Below.refl _ _).alloc (Nat.le_refl _) _), Below.refl _ _⟩
  case round =>
    clear HY LY
    obtain ⟨r, Z, A, c, hr, rfl, rfl, hZ, hL, hB⟩ := hrel
    have HZ := Lib.hid hZ
    have LX := Lib.hid hL
    have BX := Lib.hid hB
    have HA2 := Lib.hid (HA1.out.call hB)
    have hr100 : (r : Int) < 100 := by omega
    obtain ⟨g0, g1, g2, g3, g4, g5, g6⟩ := HA2.out.all
    clear hZ hL hB
    go_wp2_with fail
    refine (ris_any p h f d (runF p f d r) Z A c _ HA2.out.net HG.out HD.out LX.out.rts HZ.out (run_fits NG.out r)).mono ?_
    rintro e w3 ⟨rfl, hb3⟩
    have LX3 := Lib.hid (LX.out.call hb3)
    have BX3 := Lib.hid (since_trans BX.out hb3)
    have HA3 := Lib.hid (HA2.out.call hb3)
    clear hb3 g0 g1 g2 g3 g4 g5 g6
    by_cases hs : stL p (stepF p f d (runF p f d r)) = stL p (runF p f d r)
    · have hrR : r = R := by
        rcases Nat.lt_or_eq_of_le hr with h1 | h1
        · exact absurd (show stL p (runF p f d r) = stL p (runF p f d (r + 1)) from hs.symm) (HS.out.least r h1)
        · exact h1
      rw [show decide (stL p (stepF p f d (runF p f d r)) = stL p (runF p f d r)) = true from decide_eq_true hs]
      clear hs
      by_cases hbud : b < (r : Int) + 1
      · have HF : Hid (SolvePost p f d b R w (.returned (.tuple #[.slice none 0 0, .int .i64 0, .int .i64 70])) w3) := Lib.hid (.inr ⟨by omega, rfl, LX3.out.below⟩)
        clear hrR
        go_wp2
        go_ret3
        exact HF.out
      · have hbud' : (r : Int) + 1 ≤ b := by omega
        have HF : Hid (SolvePost p f d b R w (.returned (.tuple #[.slice A Z.length c, .int .i64 r, .int .i64 0])) w3) := Lib.hid (.inl ⟨by omega, Z, A, c, by rw [hrR], by rw [HZ.out, hrR], LX3.out⟩)
        clear hbud hrR
        go_wp2
        go_ret3
        exact HF.out
    · have hrR : r + 1 ≤ R := by
        rcases Nat.lt_or_eq_of_le hr with h1 | h1
        · exact h1
        · exact absurd (show stL p (runF p f d (r + 1)) = stL p (runF p f d r) from by rw [h1]; exact HS.out.stop.symm) hs
      rw [show decide (stL p (stepF p f d (runF p f d r)) = stL p (runF p f d r)) = false from decide_eq_false hs]
      clear hs
      obtain ⟨g0, g1, g2, g3, g4, g5, g6⟩ := HA3.out.all
      go_wp2_with fail
      refine (rstep_any p h f d (runF p f d r) Z A c _ HA3.out.net HG.out HD.out LX3.out.rts HZ.out (run_fits NG.out r)).mono ?_
      rintro e w4 ⟨X, A4, c4, rfl, hX, hLX⟩
      have HX := Lib.hid (show X.map (·.1) = stL p (runF p f d (r + 1)) from hX)
      have LX4 := Lib.hid (hLX.since LX3.out.below)
      have B4 := Lib.hid (since_trans BX3.out hLX.below)
      clear hX hLX g0 g1 g2 g3 g4 g5 g6
      go_wp2_with fail
      go_roundw
      case rel => exact ⟨r + 1, X, A4, c4, hrR, by go_num, rfl, HX.out, LX4.out, B4.out⟩
      case measure => simp [intOf]; omega
/-- Both Solve answer alike, at any network that is small (it may be wrong), any set, destination and budget. -/
def SolveQ (L : List Rt) (n er : Int) (w : World) (e : Ending) (w' : World) : Prop :=
  ∃ (Z : List RtZ) (A : Option Addr) (c : Nat), e = .returned (.tuple #[.slice A Z.length c, .int .i64 n, .int .i64 er]) ∧ Z.map (·.1) = L ∧ LW w w' Z A c
theorem solves_same (p : Net) (f d b : Int) (hs : Small p) : ∃ (L : List Rt) (n er : Int), L.length ≤ 1000 ∧ ∀ (h : Hd) (w : World), NetR w w.heap.size p h →
    Calls Tryz.prog 10 #[netV p h, .int .i64 f, .int .i64 d, .int .i64 b] w (SolveQ L n er w) ∧ Calls Tryz.prog 11 #[netV p h, .int .i64 f, .int .i64 d, .int .i64 b] w (SolveQ L n er w) := by
  cases ht : thereB p d with
  | false =>
    refine ⟨[], 0, 1, by simp, fun h w hp => ⟨(solve_bad_any p h f d b w hp hs ht).mono ?_, (rsolve_bad p h f d b w hp hs ht).mono ?_⟩⟩
    · rintro e w' ⟨rfl, hb⟩
      exact ⟨[], none, 0, rfl, rfl, LW.begin hb⟩
    · rintro e w' ⟨rfl, hb⟩
      exact ⟨[], none, 0, rfl, rfl, LW.begin hb⟩
  | true =>
    have ht' : (rightB p && placeB d p.dests.length) = true := ht
    rw [Bool.and_eq_true] at ht'
    have hg := good_of2 hs ht'.1
    obtain ⟨R, hR, hS⟩ := stop_ex (f := f) (d := d) hg.netG
    by_cases hb : (R : Int) + 1 ≤ b
    · have key : ∀ (w : World) (e : Ending) (w' : World), SolvePost p f d b R w e w' → SolveQ (stL p (runF p f d R)) R 0 w e w' := by
        rintro w e w' (⟨-, Z, A, c, h1, h2, h3⟩ | ⟨h1, -⟩)
        · exact ⟨Z, A, c, h1, h2, h3⟩
        · omega
      refine ⟨_, R, 0, ?_, fun h w hp => ⟨(solve_any p h f d b R w hp hg ht'.2 hS hR).mono (key w), (rsolve_any p h f d b R w hp hg ht'.2 hS hR).mono (key w)⟩⟩
      rw [stL_len]; exact hs.nodes
    · have key : ∀ (w : World) (e : Ending) (w' : World), SolvePost p f d b R w e w' → SolveQ [] 0 70 w e w' := by
        rintro w e w' (⟨h1, -⟩ | ⟨-, h1, h2⟩)
        · omega
        · exact ⟨[], none, 0, h1, rfl, LW.begin h2⟩
      exact ⟨[], 0, 70, by simp, fun h w hp => ⟨(solve_any p h f d b R w hp hg ht'.2 hS hR).mono (key w), (rsolve_any p h f d b R w hp hg ht'.2 hS hR).mono (key w)⟩⟩
end
end Go.Proofs.YtakolnmoieiicaaGreat

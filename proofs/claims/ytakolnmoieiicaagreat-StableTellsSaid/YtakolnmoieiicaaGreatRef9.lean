/- The document's own answers of layer 9: Start, at a network that may be. -/
import Derived.Test.YtakolnmoieiicaaGreatRef7
import Derived.Test.YtakolnmoieiicaaGreatRoundW
namespace Go.Proofs.YtakolnmoieiicaaGreat
set_option linter.unusedSimpArgs false
set_option linter.unusedVariables false
open Go.RowKit

set_option maxRecDepth 100000 in
set_option maxHeartbeats 2000000 in
theorem rstart_any (p : Net) (h : Hd) (d : Int) (w : World) (hp : NetR w w.heap.size p h) (hg : Good p) (hd : placeB d p.dests.length = true) :
    Calls Tryz.prog 23 #[netV p h, .int .i64 d] w (StsPost w (stL p (startF p d))) := by
  have PX := Lib.hid (AtRight.begin hp)
  have HG := Lib.hid hg
  have hn12 := hg.n12.2
  have hd' : 0 ≤ d ∧ d < p.dests.length := by unfold placeB at hd; simpa using hd
  obtain ⟨d, rfl⟩ : ∃ k : Nat, d = k := ⟨d.toNat, by omega⟩
  have hd0' : decide ((d : Int) < 0) = false := decide_eq_false (by omega)
  have hd1' : decide ((p.dests.length : Int) ≤ (d : Int)) = false := decide_eq_false (by omega)
  have hd1'' : decide (p.dests.length ≤ d) = false := decide_eq_false (by omega)
  obtain ⟨i3, hi3, hz3, hs3, hb3⟩ := info_parts Tryz.info_rt
  clear hp hg hd hd'
  unfold netV netVal
  go_enter Tryz.func23, Tryz.ntmps23
  go_wp2_with fail
  refine (rright_any p h _ PX.out.net HG.out.small).mono ?_
  rintro e w1 ⟨rfl, hb1⟩
  rw [HG.out.right]
  have P1 := Lib.hid (PX.out.call hb1)
  obtain ⟨c0, c1, c2, c3, c4, c5, c6⟩ := P1.out.all
  clear hb1 PX
  go_wp2_with fail
  go_loopw [6, 7] (fun sl si wx => ∃ (k : Nat) (L : List RtZ) (A : Option Addr) (c : Nat), k ≤ p.nodes.length ∧ L.length = k ∧ si = .int .i64 k ∧ sl = .slice A L.length c ∧ L.map (·.1) = (List.range k).map (startF p d) ∧ LW w1 wx L A c) (fun _ si _ => p.nodes.length - (intOf si).toNat)
  case atStart => exact ⟨0, [], none, 0, Nat.zero_le _, rfl, rfl, rfl, rfl, LW.begin (Below.refl _ _)⟩
  case round =>
    obtain ⟨k, L, A, c, hk, hLk, rfl, rfl, hmap, hL⟩ := hrel
    have LX := Lib.hid hL
    have MX := Lib.hid hmap
    have HLk := Lib.hid hLk
    have hL12 : L.length ≤ 12 := by omega
    have P2 := Lib.hid (P1.out.call hL.below)
    clear hL hmap hLk c0 c1 c2 c3 c4 c5 c6
    obtain ⟨c0, c1, c2, c3, c4, c5, c6⟩ := P2.out.all
    by_cases hlt : k < p.nodes.length
    · go_wp2_with fail
      refine (rown_any p h d k _ P2.out.net HG.out.small).mono ?_
      rintro e w4 ⟨rfl, hb4⟩
      rw [rown_good HG.out.right]
      have L4 := Lib.hid (LX.out.call hb4)
      have hsz := hb4.size
      have HM := Lib.hid (show (L ++ [((ownR p d k, (none, 0)) : RtZ)]).map (·.1) = (List.range (k + 1)).map (startF p d) from by rw [List.map_append, MX.out, range_snoc]; rfl)
      have HO := Lib.hid (show (ownR p d (k : Int)).path = [] from by unfold ownR rtOwn; split <;> (try split) <;> rfl)
      generalize ownR p d k = r at *
      clear hb4 c0 c1 c2 c3 c4 c5 c6
      unfold rtV
      have hLs := LX.out.below.size
      go_wp2_with ((at_builtin; go_loud (refine wpList_app _ rfl _ _ 37 rfl (w1.heap.size) 48 i3 _ 3 40 Tryz.underlying37 hi3 hz3 hs3 hb3 rfl (by decide) _ _ _ (L.flatMap rtCells) rfl (L4.out.alloc _).row _ 1 _ (rtCells ((r, (none, 0)) : RtZ)) rfl (Rd.new (by simp) rfl) ?h1 ?h63 ?hby ?hB ?_); go_loud (case h1 => intro u hu; simp [rtCells] at hu; rcases hu with rfl | rfl | rfl <;> rfl); go_loud (case h63 => unfold maxLen; omega); go_loud (case hby => omega); go_loud (case hB => have := L4.out.below.size; simp; omega); intro A2 c2 w5 hown2 hgrow2 hblk2 _; go_loud (have L5 := Lib.hid (LW.app (z := ((r, (none, 0)) : RtZ)) (L4.out.alloc _) (show w1.heap.size ≤ wr.heap.size from hLs) (OwnOr.alloc (.inr ⟨HO.out, Nat.zero_le _⟩) _) (by rfl) hgrow2 hown2))); clear hown2 hgrow2 hblk2)
      go_roundw
      case rel => exact ⟨k + 1, _, A2, c2, by omega, by have := HLk.out; simp; omega, by go_num, by simp, HM.out, L5.out⟩
      case measure => simp [intOf]; omega
    · have hkN : k = p.nodes.length := by omega
      have HF : Hid (StsPost w (stL p (startF p d)) (.returned (.slice A L.length c)) wr) := Lib.hid ⟨L, A, c, rfl, by rw [MX.out, hkN]; rfl, LX.out.since P1.out.below⟩
      clear hkN
      go_wp2
      go_ret
      exact HF.out
end Go.Proofs.YtakolnmoieiicaaGreat

/- The walks of round.there, Fits, Same and Start, at a network that may be. The example of chapters 9 and 10, plainly, and where it lies. No program is walked here. -/
import Derived.Test.YtakolnmoieiicaaGreatCarryH
import Derived.Test.YtakolnmoieiicaaGreatAttrB
import Derived.Test.YtakolnmoieiicaaGreatRoundP
import Derived.Test.YtakolnmoieiicaaGreatRegs
import Derived.Test.YtakolnmoieiicaaGreatNetD
import Derived.Test.YtakolnmoieiicaaGreatBase
namespace Go.Proofs.YtakolnmoieiicaaGreat
set_option linter.unusedSimpArgs false
set_option linter.unusedVariables false
open Go.RowKit

section
/-- The routes L, one for each node, in memory of the call's own. -/
def StsPost (w0 : World) (L : List Rt) (e : Ending) (w' : World) : Prop :=
  ∃ (Z : List RtZ) (A : Option Addr) (c : Nat), e = .returned (.slice A Z.length c) ∧ Z.map (·.1) = L ∧ LW w0 w' Z A c
theorem LW.since {w0 w1 wr : World} {L : List RtZ} {A : Option Addr} {c : Nat} (a : LW w1 wr L A c) (hb : Below w0.heap.size w0 w1) : LW w0 wr L A c :=
  ⟨since_trans hb a.below, a.row.more hb.size, a.za, fun z hz => (a.each z hz).more hb.size⟩
theorem LW.one {w0 wr : World} {B : Nat} (hb : Below w0.heap.size w0 wr) {z : RtZ} (ho : OwnOr wr B z.2.1 z.2.2 z.1.path) (hB : w0.heap.size ≤ B) :
    LW w0 (wr.alloc (.cells #[.int .i64 z.1.kind, .int .i64 z.1.cost, .slice z.2.1 z.1.path.length z.2.2] 48)) [z] (some ⟨wr.heap.size, 0, none⟩) 1 := by
  refine ⟨hb.alloc hb.size _, ⟨rfl, Nat.le_refl _, by simp [maxLen], by simp, ?_, fun _ => ⟨wr.heap.size, 0, _, rfl, heap_alloc_new _ _, by simp, fun j u hu => ?_⟩⟩, by simp, ?_⟩
  · intro g hg; simp [blk] at hg; subst hg; exact hb.size
  · simpa [rtCells] using hu
  · intro y hy; simp at hy; subst hy; exact (ho.alloc _).more hB

theorem there_any (p : Net) (h : Hd) (d : Int) (w : World) (hp : NetR w w.heap.size p h) (hg : Good p) (hd : placeB d p.dests.length = true) :
    Calls Tryz.prog 44 #[netV p h, .int .i64 d] w fun e w' => e = .returned (.bool true) ∧ Below w.heap.size w w' := by
  have HA := Lib.hid (AtRight.begin hp)
  have HG := Lib.hid hg
  have hd' : 0 ≤ d ∧ d < p.dests.length := by unfold placeB at hd; simpa using hd
  obtain ⟨hd0, hd1⟩ := hd'
  clear hp hg hd
  unfold netV netVal
  go_enter Tryz.func44, Tryz.ntmps44
  go_wp2_with fail
  refine (right_any p h _ HA.out.net HG.out.small HG.out.names).mono ?_
  rintro e w1 ⟨rfl, hb1⟩
  rw [HG.out.right]
  have HA1 := Lib.hid (HA.out.call hb1)
  obtain ⟨c0, c1, c2, c3, c4, c5, c6⟩ := HA1.out.all
  clear hb1
  go_wp2
  go_ret
  exact ⟨rfl, HA1.out.below⟩

set_option maxRecDepth 100000 in
set_option maxHeartbeats 2000000 in
theorem start_any (p : Net) (h : Hd) (d : Int) (w : World) (hp : NetR w w.heap.size p h) (hg : Good p) (hd : placeB d p.dests.length = true) :
    Calls Tryz.prog 20 #[netV p h, .int .i64 d] w (StsPost w (stL p (startF p d))) := by
  have PX := Lib.hid (AtRight.begin hp)
  have HG := Lib.hid hg
  have HD := Lib.hid hd
  have hn12 := hg.n12.2
  obtain ⟨i3, hi3, hz3, hs3, hb3⟩ := info_parts Tryz.info_rt
  clear hp hg hd
  unfold netV netVal
  go_enter Tryz.func20, Tryz.ntmps20
  go_wp2_with fail
  refine (there_any p h d _ PX.out.net HG.out HD.out).mono ?_
  rintro e w1 ⟨rfl, hb1⟩
  have P1 := Lib.hid (PX.out.call hb1)
  obtain ⟨c0, c1, c2, c3, c4, c5, c6⟩ := P1.out.all
  clear hb1 PX
  go_wp2_with fail
  go_loopw [4, 13] (fun sl si wx => ∃ (k : Nat) (L : List RtZ) (A : Option Addr) (c : Nat), k ≤ p.nodes.length ∧ L.length = k ∧ si = .int .i64 k ∧ sl = .slice A L.length c ∧ L.map (·.1) = (List.range k).map (startF p d) ∧ LW w1 wx L A c) (fun _ si _ => p.nodes.length - (intOf si).toNat)
  case atStart => exact ⟨0, [], none, 0, Nat.zero_le _, rfl, rfl, rfl, rfl, LW.begin (Below.refl _ _)⟩
  case round =>
    obtain ⟨k, L, A, c, hk, hLk, rfl, rfl, hmap, hL⟩ := hrel
    have LX := Lib.hid hL
    have MX := Lib.hid hmap
    have HLk := Lib.hid hLk
    have hL12 : L.length ≤ 12 := by omega
    have P2 := Lib.hid (P1.out.call hL.below)
    clear hL hmap hLk c0 c1 c2 c3 c4 c5 c6
    obtain ⟨c0, c1, c2, c3, c4, c5, c6⟩ := P2.out.all
    by_cases hlt : k < p.nodes.length
    · go_wp2_with fail
      refine (ownX_any p h d k _ P2.out.net HG.out).mono ?_
      rintro e w4 ⟨rfl, hb4⟩
      have L4 := Lib.hid (LX.out.call hb4)
      have hsz := hb4.size
      have HM := Lib.hid (show (L ++ [((ownR p d k, (none, 0)) : RtZ)]).map (·.1) = (List.range (k + 1)).map (startF p d) from by rw [List.map_append, MX.out, range_snoc]; rfl)
      have HO := Lib.hid (show (ownR p d (k : Int)).path = [] from by unfold ownR rtOwn; split <;> (try split) <;> rfl)
      generalize ownR p d k = r at *
      clear hb4 c0 c1 c2 c3 c4 c5 c6
      unfold rtV
      have hLs := LX.out.below.size
      go_wp2_with ((at_builtin; go_loud (refine wpList_app _ rfl _ _ 37 rfl (w1.heap.size) 48 i3 _ 3 40 Tryz.underlying37 hi3 hz3 hs3 hb3 rfl (by decide) _ _ _ (L.flatMap rtCells) rfl (L4.out.alloc _).row _ 1 _ (rtCells ((r, (none, 0)) : RtZ)) rfl (Rd.new (by simp) rfl) ?h1 ?h63 ?hby ?hB ?_); go_loud (case h1 => intro u hu; simp [rtCells] at hu; rcases hu with rfl | rfl | rfl <;> rfl); go_loud (case h63 => unfold maxLen; omega); go_loud (case hby => omega); go_loud (case hB => have := L4.out.below.size; simp; omega); intro A2 c2 w5 hown2 hgrow2 hblk2 _; go_loud (have L5 := Lib.hid (LW.app (z := ((r, (none, 0)) : RtZ)) (L4.out.alloc _) (show w1.heap.size ≤ wr.heap.size from hLs) (OwnOr.alloc (.inr ⟨HO.out, Nat.zero_le _⟩) _) (by rfl) hgrow2 hown2))); clear hown2 hgrow2 hblk2)
      go_roundw
      case rel => exact ⟨k + 1, _, A2, c2, by omega, by have := HLk.out; simp; omega, by go_num, by simp, HM.out, L5.out⟩
      case measure => simp [intOf]; omega
    · have hkN : k = p.nodes.length := by omega
      have HF : Hid (StsPost w (stL p (startF p d)) (.returned (.slice A L.length c)) wr) := Lib.hid ⟨L, A, c, rfl, by rw [MX.out, hkN]; rfl, LX.out.since P1.out.below⟩
      clear hkN
      go_wp2
      go_ret
      exact HF.out

set_option maxRecDepth 100000 in
set_option maxHeartbeats 2000000 in
theorem fitsR_any (p : Net) (h : Hd) (l : St) (Z : List RtZ) (A : Option Addr) (c : Nat) (w : World) (hp : NetR w w.heap.size p h) (hg : Good p) (hl : RtsR w w.heap.size Z A) (hZ : Z.map (·.1) = stL p l) (hf : FitsF p l) :
    Calls Tryz.prog 46 #[netV p h, .slice A Z.length c] w fun e w' => e = .returned (.bool true) ∧ Below w.heap.size w w' := by
  have PX := Lib.hid (AtRight.begin hp)
  have HG := Lib.hid hg
  have HL := Lib.hid hl
  have HZ := Lib.hid hZ
  have HF := Lib.hid hf
  have hn12 := hg.n12.2
  have hZl : Z.length = p.nodes.length := by have := congrArg List.length hZ; rw [List.length_map, stL_len] at this; exact this
  clear hp hg hl hZ hf
  unfold netV netVal
  go_enter Tryz.func46, Tryz.ntmps46
  go_wp2_with fail
  refine (right_any p h _ PX.out.net HG.out.small HG.out.names).mono ?_
  rintro e w1 ⟨rfl, hb1⟩
  rw [HG.out.right]
  have P1 := Lib.hid (PX.out.call hb1)
  obtain ⟨c0, c1, c2, c3, c4, c5, c6⟩ := P1.out.all
  have hq : ((Z.length : Int) != (p.nodes.length : Int)) = false := by simp [hZl]
  clear hb1 PX
  go_wp2_with fail
  go_loopw [20] (fun si wx => ∃ (k : Nat), k ≤ Z.length ∧ si = .int .i64 k ∧ Below w1.heap.size w1 wx) (fun si _ => Z.length - (intOf si).toNat)
  case atStart => exact ⟨0, Nat.zero_le _, rfl, Below.refl _ _⟩
  case round =>
    obtain ⟨k, hk, rfl, hB⟩ := hrel
    have BX := Lib.hid hB
    have P2 := Lib.hid (P1.out.call hB)
    clear hB c0 c1 c2 c3 c4 c5 c6
    by_cases hlt : k < Z.length
    · obtain ⟨z, hz⟩ : ∃ z, Z[k]? = some z := ⟨_, List.getElem?_eq_getElem hlt⟩
      have L2 := Lib.hid ((HL.out.below P2.out.below (Nat.le_refl _)).more P2.out.below.size)
      obtain ⟨b, o, rfl, hb, z0, z1, z2⟩ := L2.out.at_ hz
      have HR := Lib.hid (L2.out.each z (List.mem_of_getElem? hz))
      have HH : Hid (holdsB p k z.1 = true) := Lib.hid (holds_iff.2 (by
        have h1 : (Z.map (·.1))[k]? = some z.1 := by rw [List.getElem?_map, hz]; rfl
        rw [HZ.out, stL_at (by omega)] at h1
        injection h1 with h1
        rw [← h1]; exact HF.out k))
      have hk0 : (0 : Int) ≤ (k : Int) := by omega
      have HPL : Hid (placeB (k : Int) p.nodes.length = true) := Lib.hid (by unfold placeB; simp; omega)
      have P3 := Lib.hid (P2.out.call ((Below.refl _ _).alloc (Nat.le_refl _) (.cells #[.int .i64 z.1.kind, .int .i64 z.1.cost, .slice z.2.1 z.1.path.length z.2.2] 48)))
      obtain ⟨c0, c1, c2, c3, c4, c5, c6⟩ := P3.out.all
      clear hz
      go_wp2_with fail
      refine (fits_any p h k z.1 z.2.1 z.2.2 _ P3.out.net HG.out ((HR.out.alloc (Nat.le_refl _) _).more (by simp))).mono ?_
      rintro e w4 ⟨rfl, hb4⟩
      rw [HH.out, HPL.out]
      have B4 := Lib.hid (since_trans (since_alloc BX.out _) hb4)
      clear hb4 c0 c1 c2 c3 c4 c5 c6
      go_wp2
      go_roundw
      case rel => exact ⟨k + 1, by omega, by go_num, B4.out⟩
      case measure => simp [intOf]; omega
    · go_wp2
      go_ret
      exact ⟨rfl, P2.out.below⟩

set_option maxRecDepth 100000 in
set_option maxHeartbeats 2000000 in
theorem eqRt_any (Z Y : List RtZ) (A A' : Option Addr) (c c' : Nat) (w : World) (h : RtsR w w.heap.size Z A) (h' : RtsR w w.heap.size Y A') (hl : Z.length ≤ 1000) (hm : Y.length ≤ 1000) :
    Calls Tryz.prog 48 #[.slice A Z.length c, .slice A' Y.length c', .func (.func 49) #[] #[]] w fun e w' => e = .returned (.bool (decide (Z.map (·.1) = Y.map (·.1)))) ∧ Below w.heap.size w w' := by
  have H := Lib.hid h
  have H' := Lib.hid h'
  clear h h'
  by_cases he : Z.length = Y.length
  · have hq : ((Z.length : Int) != (Y.length : Int)) = false := by simp [he]
    go_enter Tryz.func48, Tryz.ntmps48
    go_wp2_with fail
    go_loopw [17] (fun si wx => ∃ k : Nat, k ≤ Z.length ∧ si = .int .i64 k ∧ (Z.map (·.1)).take k = (Y.map (·.1)).take k ∧ Below w.heap.size w wx) (fun si _ => Z.length - (intOf si).toNat)
    case atStart => exact ⟨0, Nat.zero_le _, rfl, rfl, Below.refl _ _⟩
    case round =>
      obtain ⟨k, hk, rfl, htk, hB⟩ := hrel
      have TK := Lib.hid htk
      have BX := Lib.hid hB
      by_cases hlt : k < Z.length
      · obtain ⟨z, hz⟩ : ∃ z, Z[k]? = some z := ⟨_, List.getElem?_eq_getElem hlt⟩
        obtain ⟨y, hy⟩ : ∃ y, Y[k]? = some y := ⟨_, List.getElem?_eq_getElem (by omega)⟩
        have L1 := Lib.hid ((H.out.below hB (Nat.le_refl _)).more hB.size)
        have L2 := Lib.hid ((H'.out.below hB (Nat.le_refl _)).more hB.size)
        obtain ⟨b, o, rfl, hb, z0, z1, z2⟩ := L1.out.at_ hz
        obtain ⟨b', o', rfl, hb', y0, y1, y2⟩ := L2.out.at_ hy
        have HRZ := Lib.hid (L1.out.each z (List.mem_of_getElem? hz))
        have HRY := Lib.hid (L2.out.each y (List.mem_of_getElem? hy))
        have ez : (Z.map (·.1))[k]? = some z.1 := by rw [List.getElem?_map, hz]; rfl
        have ey : (Y.map (·.1))[k]? = some y.1 := by rw [List.getElem?_map, hy]; rfl
        have HS : Hid (z.1 = y.1 → (Z.map (·.1)).take (k + 1) = (Y.map (·.1)).take (k + 1)) := Lib.hid (fun e => by
          rw [List.take_add_one, List.take_add_one, ez, ey, TK.out, e])
        have HN : Hid (z.1 ≠ y.1 → Z.map (·.1) ≠ Y.map (·.1)) := Lib.hid (fun e e' => by
          rw [e', ey] at ez; injection ez with ez; exact e ez.symm)
        have hk0 : (0 : Int) ≤ (k : Int) := by omega
        have hkY : (k : Int) < (Y.length : Int) := by omega
        clear hz hy htk hB ez ey he
        go_wp2_with fail
        refine (same_rt z.1 y.1 _ _ _ _ _ ((HRZ.out.alloc (Nat.le_refl _) _).alloc (by simp) _ |>.more (by simp; omega)) ((HRY.out.alloc (Nat.le_refl _) _).alloc (by simp) _ |>.more (by simp; omega))).mono ?_
        rintro e w4 ⟨rfl, hb4⟩
        have B4 := Lib.hid (since_trans (since_alloc (since_alloc BX.out _) _) hb4)
        clear hb4 z0 z1 z2 y0 y1 y2
        by_cases hs : z.1 = y.1
        · have HT := Lib.hid (HS.out hs)
          rw [show decide (z.1 = y.1) = true from decide_eq_true hs]
          clear hs
          go_wp2
          go_roundw
          case rel => exact ⟨k + 1, by omega, by go_num, HT.out, B4.out⟩
          case measure => simp [intOf]; omega
        · have HT := Lib.hid (HN.out hs)
          rw [show decide (z.1 = y.1) = false from decide_eq_false hs]
          clear hs
          go_wp2
          go_ret
          exact ⟨ret_bool (decide_eq_false HT.out).symm, B4.out⟩
      · have HF := Lib.hid (show Z.map (·.1) = Y.map (·.1) from by
          have h1 := TK.out
          rwa [List.take_of_length_le (by simp; omega), List.take_of_length_le (by simp; omega)] at h1)
        clear htk hB
        go_wp2
        go_ret
        exact ⟨ret_bool (by simp [HF.out]), BX.out⟩
  · have hq : ((Z.length : Int) != (Y.length : Int)) = true := by simp; omega
    have HN := Lib.hid (show Z.map (·.1) ≠ Y.map (·.1) from fun e => he (by have := congrArg List.length e; simpa using this))
    clear he
    go_enter Tryz.func48, Tryz.ntmps48
    go_wp2
    go_ret
    exact ⟨ret_bool (by simp [HN.out]), Below.refl _ _⟩
theorem sameR_any (Z Y : List RtZ) (A A' : Option Addr) (c c' : Nat) (w : World) (h : RtsR w w.heap.size Z A) (h' : RtsR w w.heap.size Y A') (hl : Z.length ≤ 1000) (hm : Y.length ≤ 1000) :
    Calls Tryz.prog 22 #[.slice A Z.length c, .slice A' Y.length c'] w fun e w' => e = .returned (.bool (decide (Z.map (·.1) = Y.map (·.1)))) ∧ Below w.heap.size w w' := by
  have H := Lib.hid (eqRt_any Z Y A A' c c' w h h' hl hm)
  clear h h'
  go_enter Tryz.func22, Tryz.ntmps22
  go_wp2_with fail
  refine H.out.mono ?_
  rintro e w1 ⟨rfl, hb⟩
  have B1 := Lib.hid hb
  clear hb
  go_wp2
  go_ret
  exact ⟨rfl, B1.out⟩
end

section
theorem dest0 {p : Net} (h : 0 < p.dests.length) : placeB 0 p.dests.length = true := by unfold placeB; simp; omega
theorem len_of {L : List RtZ} {p : Net} {l : St} (h : L.map (·.1) = stL p l) : L.length = p.nodes.length := by have := congrArg List.length h; rwa [List.length_map, stL_len] at this
def pc10 : Net := ⟨1, 0, 0, [⟨⟨#[97]⟩, 1⟩, ⟨⟨#[98]⟩, 2⟩, ⟨⟨#[99]⟩, 3⟩], [⟨0, 1, 3⟩, ⟨1, 2, 1⟩], [⟨⟨#[120]⟩, [0]⟩], []⟩
theorem good_c10 : Good pc10 where
  small := ⟨by decide, by decide, by decide, by decide, by intro d hd; simp [pc10] at hd; subst hd; decide⟩
  names := by decide +kernel
  right := by decide +kernel
theorem run10_0 : stL pc10 (runF pc10 0 0 0) = [⟨1, 0, []⟩, ⟨0, 0, []⟩, ⟨0, 0, []⟩] := by kernel_rfl
theorem run10_1 : stL pc10 (runF pc10 0 0 1) = [⟨1, 0, []⟩, ⟨1, 3, []⟩, ⟨0, 0, []⟩] := by kernel_rfl
theorem run10_2 : stL pc10 (runF pc10 0 0 2) = [⟨1, 0, []⟩, ⟨1, 3, []⟩, ⟨1, 4, []⟩] := by kernel_rfl
theorem run10_3 : stL pc10 (runF pc10 0 0 3) = [⟨1, 0, []⟩, ⟨1, 3, []⟩, ⟨1, 4, []⟩] := by kernel_rfl
theorem run10_f : stL pc10 (stepF pc10 1 0 (runF pc10 0 0 2)) = [⟨1, 0, []⟩, ⟨1, 5, []⟩, ⟨1, 4, []⟩] := by kernel_rfl
theorem stop10 : Stop pc10 0 0 2 where
  stop := by rw [run10_2, run10_3]
  least := by
    intro j hj
    match j, hj with
    | 0, _ => rw [run10_0, run10_1]; simp
    | 1, _ => rw [run10_1, run10_2]; simp
theorem is10 : decide (stL pc10 (runF pc10 0 0 2) = stL pc10 (stepF pc10 0 0 (runF pc10 0 0 2))) = true := by
  rw [decide_eq_true_eq, run10_2]; exact run10_3.symm
theorem is10f : decide (stL pc10 (runF pc10 0 0 2) = stL pc10 (stepF pc10 1 0 (runF pc10 0 0 2))) = false := by
  rw [decide_eq_false_iff_not, run10_2, run10_f]; simp

def h10 (n : Nat) : Hd := ⟨some ⟨n + 1, 0, none⟩, 3, some ⟨n + 1 + 1, 0, none⟩, 2, some ⟨n + 1 + 1 + 1 + 1, 0, none⟩, 1, none, 0, [(some ⟨n + 1 + 1 + 1, 0, none⟩, 1)]⟩
def w10L (n : Nat) : List Obj := [.cells #[.string ⟨#[97]⟩, .int .i64 1, .string ⟨#[98]⟩, .int .i64 2, .string ⟨#[99]⟩, .int .i64 3] 55, .cells #[.int .i64 0, .int .i64 1, .int .i64 3, .int .i64 1, .int .i64 2, .int .i64 1] 58, .cells #[.int .i64 0] 3, .cells #[.string ⟨#[120]⟩, .slice (some ⟨n + 1 + 1 + 1, 0, none⟩) 1 1] 60]
theorem net10 {w wr : World} {o : Obj} (a : Bl w wr (o :: w10L w.heap.size)) : NetR wr wr.heap.size pc10 (h10 w.heap.size) := by
  refine ⟨?_, ?_, ?_, ?_, ?_, ?_⟩
  · exact a.rd (i := 1) (m := 3) (s := 2) rfl rfl
  · exact a.rd (i := 2) (m := 2) (s := 3) rfl rfl
  · rfl
  · exact a.rd (i := 4) (m := 1) (s := 2) rfl rfl
  · intro z hz
    simp [pc10, h10] at hz
    subst hz
    exact a.rd (i := 3) (m := 1) (s := 1) rfl rfl
  · exact Rd.nil _
theorem run10_g : stL pc10 (runF pc10 2 0 9) = [⟨1, 0, []⟩, ⟨1, 3, []⟩, ⟨0, 0, []⟩] := by kernel_rfl
end
end Go.Proofs.YtakolnmoieiicaaGreat

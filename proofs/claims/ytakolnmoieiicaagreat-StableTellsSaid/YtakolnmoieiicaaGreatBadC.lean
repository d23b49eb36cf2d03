/- Package carry's exported functions at any small network, which may be wrong. -/
import Derived.Test.YtakolnmoieiicaaGreatBadG
import Derived.Test.YtakolnmoieiicaaGreatRef7v
import Derived.Test.YtakolnmoieiicaaGreatCarryV
namespace Go.Proofs.YtakolnmoieiicaaGreat
set_option linter.unusedSimpArgs false
set_option linter.unusedVariables false
open Go.RowKit

set_option maxRecDepth 100000 in
theorem own_gen (p : Net) (h : Hd) (d n : Int) (w : World) (hp : NetR w w.heap.size p h) (hs : Small p) :
    Calls Tryz.prog 45 #[netV p h, .int .i64 d, .int .i64 n] w fun e w' => e = .returned (rtV (rownG p d n) none 0) ∧ Below w.heap.size w w' := by
  cases hr : rightB p with
  | true =>
    rw [rown_good hr]
    exact ownX_any p h d n w hp (good_of hs hr)
  | false =>
    have PX : Hid (PR w ((w.alloc (.cells (netCells p h) 30)).alloc (.cells #[.int .i64 0, .int .i64 0, .slice none 0 0] 48)) p h rtNone none 0) := Lib.hid (PR.begin hp rtR_nil)
    have HS := Lib.hid hs
    have HB := Lib.hid hr
    have HF : Hid (∀ w', Below w.heap.size w w' → (Ending.returned (.agg #[.int .i64 0, .int .i64 0, .slice none 0 0]) = Ending.returned (rtV (rownG p d n) none 0) ∧ Below w.heap.size w w')) := Lib.hid (fun w' hb => ⟨by unfold rownG; rw [hr]; rfl, hb⟩)
    clear hp hs hr
    unfold netV netVal
    go_enter Tryz.func45, Tryz.ntmps45
    go_wp2_with fail
    refine (right_gen p h _ PX.out.net HS.out).mono ?_
    rintro e w1 ⟨rfl, hb1⟩
    rw [HB.out]
    have P1 := Lib.hid (PX.out.call hb1)
    obtain ⟨hfin, ⟨r0, r1, r2⟩, ⟨f0, f1, f2⟩⟩ := rt_put P1.out.below (Nat.le_succ _) P1.out.box (.int .i64 0) (.int .i64 0) (.slice none 0 0)
    have HB2 := Lib.hid hfin
    clear hb1 hfin
    go_wp2
    exact bodyPost_ret (v := .agg #[.int .i64 0, .int .i64 0, .slice none 0 0]) (by simp [results, Tryz.results45, go_sem, r0, r1, r2]) rfl (HF.out _ HB2.out)
theorem fits_gen (p : Net) (h : Hd) (i : Int) (r : Rt) (A : Option Addr) (c : Nat) (w : World) (hp : NetR w w.heap.size p h) (hs : Small p) (hr : RtR w w.heap.size r A c) :
    Calls Tryz.prog 72 #[netV p h, .int .i64 i, rtV r A c] w fun e w' => e = .returned (.bool (rfitsG p i r)) ∧ Below w.heap.size w w' := by
  cases hq : rightB p with
  | true =>
    rw [rfits_good hq]
    exact fits_any p h i r A c w hp (good_of hs hq) hr
  | false =>
    have PX := Lib.hid (PR.begin hp hr)
    have HS := Lib.hid hs
    have HB := Lib.hid hq
    have HF := Lib.hid (show false = rfitsG p i r from by unfold rfitsG; rw [hq]; rfl)
    clear hp hs hr hq
    unfold netV netVal rtV
    go_enter Tryz.func72, Tryz.ntmps72
    go_wp2_with fail
    refine (right_gen p h _ PX.out.net HS.out).mono ?_
    rintro e w1 ⟨rfl, hb1⟩
    rw [HB.out]
    have P1 := Lib.hid (PX.out.call hb1)
    clear hb1
    go_wp2
    go_ret
    exact ⟨ret_bool HF.out, P1.out.below⟩
set_option maxRecDepth 100000 in
theorem over_gen (p : Net) (h : Hd) (k n : Int) (r : Rt) (A : Option Addr) (c : Nat) (w : World) (hp : NetR w w.heap.size p h) (hs : Small p) (hr : RtR w w.heap.size r A c) :
    Calls Tryz.prog 74 #[netV p h, .int .i64 k, .int .i64 n, rtV r A c] w (OrPost (overG p k n r) w) := by
  cases hq : rightB p with
  | true =>
    rw [over_good hq]
    exact overO_any p h k n r A c w hp (good_of hs hq) hr
  | false =>
    have PX := Lib.hid (POv.begin hp hr)
    have HS := Lib.hid hs
    have HB := Lib.hid (show rothB p k n = -1 from by rw [roth_eq, hq]; rfl)
    have HN : Hid (∀ w', Below w.heap.size w w' → OrPost (overG p k n r) w (.returned (.agg #[.int .i64 0, .int .i64 0, .slice none 0 0])) w') := Lib.hid (fun w' hb => by
      have : overG p k n r = rtNone := by unfold overG; rw [hq]; rfl
      rw [this]; exact ⟨none, 0, rfl, OwnOr.nil, hb⟩)
    clear hp hs hr hq
    unfold netV netVal rtV
    go_enter Tryz.func74, Tryz.ntmps74
    go_wp2_with fail
    refine (other_gen p h n _ PX.out.pr.net HS.out k).mono ?_
    rintro e w1 ⟨rfl, hb1⟩
    rw [HB.out]
    have P1 := Lib.hid (PX.out.call hb1)
    obtain ⟨hfin, ⟨r0, r1, r2⟩, ⟨f0, f1, f2⟩⟩ := rt_put (r := rtNone) (A := none) (c := 0) P1.out.pr.below (show w.heap.size ≤ w.heap.size + 1 + 1 by omega) P1.out.out (.int .i64 0) (.int .i64 0) (.slice none 0 0)
    have HB2 := Lib.hid hfin
    clear hb1 hfin
    go_wp2
    exact bodyPost_ret (v := .agg #[.int .i64 0, .int .i64 0, .slice none 0 0]) (by simp [results, Tryz.results74, go_sem, r0, r1, r2]) rfl (HN.out _ HB2.out)
end Go.Proofs.YtakolnmoieiicaaGreat

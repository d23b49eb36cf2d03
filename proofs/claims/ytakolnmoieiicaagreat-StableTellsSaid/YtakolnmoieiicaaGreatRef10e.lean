/- How many rounds are enough: by the program and by the document, for any network (backstayref10.Enough, stable.Enough). -/
import Derived.Test.YtakolnmoieiicaaGreatRef3r
namespace Go.Proofs.YtakolnmoieiicaaGreat
set_option linter.unusedSimpArgs false
set_option linter.unusedVariables false
open Go.RowKit

def enoughB (p : Net) : Int := if rightB p = true then (p.nodes.length : Int) + 1 else 0
theorem enough_gen (p : Net) (h : Hd) (w : World) (hp : NetR w w.heap.size p h) (hs : Small p) :
    Calls Tryz.prog 7 #[netV p h] w fun e w' => e = .returned (.int .i64 (enoughB p)) ∧ Below w.heap.size w w' := by
  have HA := Lib.hid (AtRight.begin hp)
  have HS := Lib.hid hs
  have hn12 := hs.nodes
  clear hp hs
  unfold netV netVal
  go_enter Tryz.func7, Tryz.ntmps7
  go_wp2_with fail
  refine (right_gen p h _ HA.out.net HS.out).mono ?_
  rintro e w1 ⟨rfl, hb1⟩
  have HA1 := Lib.hid (HA.out.call hb1)
  obtain ⟨c0, c1, c2, c3, c4, c5, c6⟩ := HA1.out.all
  clear hb1
  by_cases hr : rightB p = true
  · have HE := Lib.hid (show (p.nodes.length : Int) + 1 = enoughB p from by unfold enoughB; rw [hr]; rfl)
    rw [hr]
    clear hr
    go_wp2
    go_ret
    exact ⟨ret_int (by rw [← HE.out]), HA1.out.below⟩
  · have HE := Lib.hid (show (0 : Int) = enoughB p from by unfold enoughB; rw [if_neg hr])
    have hr : rightB p = false := by simpa using hr
    rw [hr]
    clear hr
    go_wp2
    go_ret
    exact ⟨ret_int (by rw [← HE.out]), HA1.out.below⟩
theorem renough_any (p : Net) (h : Hd) (w : World) (hp : NetR w w.heap.size p h) (hs : Small p) :
    Calls Tryz.prog 8 #[netV p h] w fun e w' => e = .returned (.int .i64 (enoughB p)) ∧ Below w.heap.size w w' := by
  have HA := Lib.hid (AtRight.begin hp)
  have HS := Lib.hid hs
  have hn12 := hs.nodes
  clear hp hs
  unfold netV netVal
  go_enter Tryz.func8, Tryz.ntmps8
  go_wp2_with fail
  refine (rright_any p h _ HA.out.net HS.out).mono ?_
  rintro e w1 ⟨rfl, hb1⟩
  have HA1 := Lib.hid (HA.out.call hb1)
  obtain ⟨c0, c1, c2, c3, c4, c5, c6⟩ := HA1.out.all
  clear hb1
  by_cases hr : rightB p = true
  · have HE := Lib.hid (show (p.nodes.length : Int) + 1 = enoughB p from by unfold enoughB; rw [hr]; rfl)
    rw [hr]
    clear hr
    go_wp2
    go_ret
    exact ⟨ret_int (by rw [← HE.out]), HA1.out.below⟩
  · have HE := Lib.hid (show (0 : Int) = enoughB p from by unfold enoughB; rw [if_neg hr])
    have hr : rightB p = false := by simpa using hr
    rw [hr]
    clear hr
    go_wp2
    go_ret
    exact ⟨ret_int (by rw [← HE.out]), HA1.out.below⟩
end Go.Proofs.YtakolnmoieiicaaGreat

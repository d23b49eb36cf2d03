/- The example of backstaylaw10.awake, plainly and walked. -/
import Derived.Test.YtakolnmoieiicaaGreatStableW
import Derived.Test.YtakolnmoieiicaaGreatRoundW
import Derived.Test.YtakolnmoieiicaaGreatNetD
import Derived.Test.YtakolnmoieiicaaGreatBase
namespace Go.Proofs.YtakolnmoieiicaaGreat
set_option linter.unusedSimpArgs false
set_option linter.unusedVariables false
open Go.RowKit

set_option maxRecDepth 100000 in
set_option maxHeartbeats 2000000 in
theorem chain_any (w : World) : Calls Tryz.prog 16 #[] w (PairPost pc10 w) := by
  go_enter Tryz.func16, Tryz.ntmps16
  go_wp2
  refine bodyPost_ret (v := .agg #[.int .i64 1, .int .i64 0, .int .i64 0, .slice (some ⟨w.heap.size + 1, 0, none⟩) 3 3, .slice (some ⟨w.heap.size + 1 + 1, 0, none⟩) 2 2, .slice (some ⟨w.heap.size + 1 + 1 + 1 + 1, 0, none⟩) 1 1, .slice none 0 0]) (by simp [results, Tryz.results16, go_sem]) rfl ⟨h10 w.heap.size, rfl, ?_, by go_grown⟩
  exact (net10 (w := w) ((((((Bl.begin w).push (by simp) _).push (by simp) _).push (by simp) _).push (by simp) _).push (by simp) _))

set_option maxRecDepth 100000 in
set_option maxHeartbeats 4000000 in
theorem awake10 (w : World) : Calls Tryz.prog 4 #[] w fun e w' => e = .returned (.bool true) ∧ Below w.heap.size w w' := by
  go_enter Tryz.func4, Tryz.ntmps4
  go_wp2_with fail
  refine (chain_any w).mono ?_
  rintro e w1 ⟨hv, rfl, hn, hb⟩
  have P1 : Hid (PB w (w1.alloc (.cells #[.int .i64 pc10.proto, .int .i64 pc10.cap, .int .i64 pc10.k, .slice hv.an pc10.nodes.length hv.cn, .slice hv.al pc10.links.length hv.cl, .slice hv.ad pc10.dests.length hv.cd, .slice hv.ac pc10.checks.length hv.cc] 30)) w1.heap.size pc10 hv) := Lib.hid (PB.begin hb hn)
  clear hn hb
  unfold netV netVal
  obtain ⟨v0, v1, v2, v3, v4, v5, v6⟩ := P1.out.all
  go_upto_region 2 with fail
  generalize (w1.alloc (.cells #[.int .i64 pc10.proto, .int .i64 pc10.cap, .int .i64 pc10.k, .slice hv.an pc10.nodes.length hv.cn, .slice hv.al pc10.links.length hv.cl, .slice hv.ad pc10.dests.length hv.cd, .slice hv.ac pc10.checks.length hv.cc] 30)) = x1 at *
  generalize w1.heap.size = b1 at *
  clear v0 v1 v2 v3 v4 v5 v6
  obtain ⟨v0, v1, v2, v3, v4, v5, v6⟩ := P1.out.all
  go_wp2_with fail
  refine (solve_any pc10 hv 0 0 3 2 _ P1.out.net good_c10 rfl stop10 (by decide)).mono ?_
  rintro e w2 hpost
  obtain ⟨Z, A, c, rfl, hZ, hL⟩ : ∃ (Z : List RtZ) (A : Option Addr) (c : Nat), e = .returned (.tuple #[.slice A Z.length c, .int .i64 (2 : Nat), .int .i64 0]) ∧ Z.map (·.1) = stL pc10 (runF pc10 0 0 2) ∧ LW x1 w2 Z A c := by
    rcases hpost with ⟨-, h⟩ | ⟨h, -⟩
    · exact h
    · omega
  have P2 := Lib.hid (P1.out.call hL.below)
  have HZ := Lib.hid hZ
  have R2 := Lib.hid hL.rts
  have hZ3 : Z.length = 3 := by have := congrArg List.length hZ; rw [run10_2] at this; simpa using this
  rw [hZ3]
  clear hpost hZ hL v0 v1 v2 v3 v4 v5 v6
  obtain ⟨v0, v1, v2, v3, v4, v5, v6⟩ := P2.out.all
  have HZ3 := Lib.hid hZ3
  clear hZ3
  go_wp2_with fail
  refine (solve_any pc10 hv 0 0 2 2 _ P2.out.net good_c10 rfl stop10 (by decide)).mono ?_
  rintro e w3 hpost
  obtain ⟨rfl, hb3⟩ : e = .returned (.tuple #[.slice none 0 0, .int .i64 0, .int .i64 70]) ∧ Below w2.heap.size w2 w3 := by
    rcases hpost with ⟨h, -⟩ | ⟨-, h⟩
    · omega
    · exact h
  have P3 := Lib.hid (P2.out.call hb3)
  have R3 := Lib.hid (R2.out.call hb3)
  clear hpost hb3 v0 v1 v2 v3 v4 v5 v6
  obtain ⟨v0, v1, v2, v3, v4, v5, v6⟩ := P3.out.all
  go_wp2_with fail
  refine (solve_no pc10 hv 0 1 9 _ P3.out.net good_c10 (by decide) (by decide)).mono ?_
  rintro e w4 ⟨rfl, hb4⟩
  have P4 := Lib.hid (P3.out.call hb4)
  have R4 := Lib.hid (R3.out.call hb4)
  clear hb4 v0 v1 v2 v3 v4 v5 v6
  obtain ⟨v0, v1, v2, v3, v4, v5, v6⟩ := P4.out.all
  obtain ⟨z, hz⟩ : ∃ z, Z[2]? = some z := ⟨_, List.getElem?_eq_getElem (by have := HZ3.out; omega)⟩
  have hzz : z.1 = ⟨1, 4, []⟩ := by
    have h1 : (Z.map (·.1))[2]? = some z.1 := by rw [List.getElem?_map, hz]; rfl
    rw [HZ.out, run10_2] at h1
    simpa using h1.symm
  obtain ⟨b, o, e, -, -, z1, -⟩ := R4.out.at_ hz
  rw [hzz] at z1
  simp only [Nat.reduceMul] at z1
  subst e
  clear hz hzz
  go_wp2_with fail
  refine (enoughN_any pc10 hv _ P4.out.net good_c10).mono ?_
  rintro e w5 ⟨rfl, hb5⟩
  rw [show ((pc10.nodes.length : Int) + 1) = 4 from rfl]
  have P5 := Lib.hid (P4.out.call hb5)
  have R5 := Lib.hid (R4.out.call hb5)
  have CI : Hid (∀ f wy, NetR wy wy.heap.size pc10 hv → RtsR wy wy.heap.size Z (some ⟨b, o, none⟩) → Calls Tryz.prog 14 #[netV pc10 hv, .int .i64 f, .int .i64 0, .slice (some ⟨b, o, none⟩) 3 c] wy fun e w' => e = .returned (.bool (decide (stL pc10 (runF pc10 0 0 2) = stL pc10 (stepF pc10 f 0 (runF pc10 0 0 2))))) ∧ Below wy.heap.size wy w') := Lib.hid (fun f wy hn hr => by
    have := isX_any pc10 hv f 0 (runF pc10 0 0 2) Z (some ⟨b, o, none⟩) c wy hn good_c10 rfl hr HZ.out (run_fits good_c10.netG 2)
    rwa [HZ3.out] at this)
  clear hb5 v0 v1 v2 v3 v4 v5 v6 z1
  obtain ⟨v0, v1, v2, v3, v4, v5, v6⟩ := P5.out.all
  go_wp2_with fail
  refine (CI.out 0 _ P5.out.net R5.out).mono ?_
  rintro e w6 ⟨rfl, hb6⟩
  rw [is10]
  have P6 := Lib.hid (P5.out.call hb6)
  have R6 := Lib.hid (R5.out.call hb6)
  clear hb6 v0 v1 v2 v3 v4 v5 v6
  obtain ⟨v0, v1, v2, v3, v4, v5, v6⟩ := P6.out.all
  go_wp2_with fail
  refine (CI.out 1 _ P6.out.net R6.out).mono ?_
  rintro e w7 ⟨rfl, hb7⟩
  rw [is10f]
  have P7 := Lib.hid (P6.out.call hb7)
  clear hb7 v0 v1 v2 v3 v4 v5 v6
  go_wp2
  go_ret
  exact ⟨rfl, P7.out.below⟩
end Go.Proofs.YtakolnmoieiicaaGreat

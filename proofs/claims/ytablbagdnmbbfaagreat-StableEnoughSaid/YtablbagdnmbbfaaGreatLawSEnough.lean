/- The walk of backstaylaw10.StableEnough. -/
import Derived.Test.YtablbagdnmbbfaaGreatLaw10
import Derived.Test.YtablbagdnmbbfaaGreatSame9
namespace Go.Proofs.YtablbagdnmbbfaaGreat
set_option linter.unusedSimpArgs false
set_option linter.unusedVariables false
open Go.RowKit

attribute [local go_sem ↓] Go.wp_at_zero Go.wp_at_succ
set_option maxRecDepth 100000 in
set_option maxHeartbeats 8000000 in
theorem stableEnough_walk (a0 : Option Addr) (c0 : Nat) (l0 : List Int) (n1 n2 : Int) (w : World) (h0 : InRow w a0 c0 l0) (k1 : In64 n1) (k2 : In64 n2) :
    Calls Tryz.prog 5 #[.slice a0 l0.length c0, .int .i64 n1, .int .i64 n2] w fun e w' => e = .returned (.bool true) ∧ Below w.heap.size w w' := by
  have I1 := Lib.hid k1
  have I2 := Lib.hid k2
  clear k1 k2
  have H0 := Lib.hid h0
  clear h0
  go_enter Tryz.func5, Tryz.ntmps5
  go_wp2_with fail
  refine (awake10 _).mono ?_
  rintro e w1 ⟨rfl, hb1⟩
  have J0 := Lib.hid (H0.out.call hb1)
  have B1 := Lib.hid hb1
  clear hb1
  go_wp2_with fail
  refine (net_any _ _ l0 c0 J0.out.len J0.out.le J0.out.rd J0.out.in64).mono ?_
  rintro e w2 ⟨p, h, rfl, hok, hown, hb⟩
  have B2 := Lib.hid (since_trans B1.out hb)
  have OK := Lib.hid hok
  have GD := Lib.hid hok.good
  have NG := Lib.hid hok.good.netG
  have P0 : Hid (NW w (w2.alloc (.cells #[.int .i64 p.proto, .int .i64 p.cap, .int .i64 p.k, .slice h.an p.nodes.length h.cn, .slice h.al p.links.length h.cl, .slice h.ad p.dests.length h.cd, .slice h.ac p.checks.length h.cc] 30)) w2.heap.size p h []) := Lib.hid ⟨PB.begin B2.out hown.net, by intro z hz; cases hz⟩
  have hn2 := hok.n.1
  have hn7 := hok.n.2
  have hl9 := hok.l9
  clear hb hown hok J0
  unfold netV netVal
  go_upto_region 3 with fail
  generalize (w2.alloc (.cells #[.int .i64 p.proto, .int .i64 p.cap, .int .i64 p.k, .slice h.an p.nodes.length h.cn, .slice h.al p.links.length h.cl, .slice h.ad p.dests.length h.cd, .slice h.ac p.checks.length h.cc] 30)) = w3 at *
  generalize w2.heap.size = bp at *
  clear B1 B2
  obtain ⟨g0, g1, g2, g3, g4, g5, g6⟩ := P0.out.pb.all
  have HD0 := Lib.hid (dest0 (p := p) (by have := OK.out.d12.1; omega))
  go_wp2_with fail
  refine (pick10_any n1 512 _ I1.out (by omega) (by omega)).mono ?_
  rintro e w' ⟨rfl, rfl⟩
  generalize pickV n1 512 = x at *
  obtain ⟨R, hR, hS⟩ := stop_ex (p := p) (f := x) (d := 0) NG.out
  have HS := Lib.hid hS
  clear hS
  go_wp2_with fail
  refine (enoughN_any p h _ P0.out.net GD.out).mono ?_
  rintro e w4 ⟨rfl, hb4⟩
  have P4 := Lib.hid (P0.out.call hb4)
  clear hb4 g0 g1 g2 g3 g4 g5 g6
  obtain ⟨g0, g1, g2, g3, g4, g5, g6⟩ := P4.out.pb.all
  go_wp2_with fail
  refine (solve_any p h x 0 ((p.nodes.length : Int) + 1) R _ P4.out.net GD.out HD0.out HS.out hR).mono ?_
  rintro e w5 hpost
  obtain ⟨Z, A, c, rfl, hZ, hL⟩ := solve_ok hpost (by omega)
  have P5 := Lib.hid (P4.out.call hL.below)
  have HZ := Lib.hid hZ
  have LZ := Lib.hid hL.rts
  have hZ12 : Z.length ≤ 12 := by have := len_of hZ; omega
  clear hpost hZ hL g0 g1 g2 g3 g4 g5 g6
  obtain ⟨g0, g1, g2, g3, g4, g5, g6⟩ := P5.out.pb.all
  go_upto_region 6 with fail
  have hm := pickV_in (c := n2) (n := 1073741824) (by omega)
  have HPK := Lib.hid (fun (wy : World) => pick10_any n2 1073741824 wy I2.out (by omega) (by omega))
  generalize pickV n2 1073741824 = m at *
  have hwr : IntKind.i64.wrap ((p.nodes.length : Int) + 1 + m) = (p.nodes.length : Int) + 1 + m := by rw [IntKind.wrap_i64]; omega
  have HC : Hid (∀ wy, NW w wy bp p h [] ∧ RtsR wy wy.heap.size Z A → wy.cell? ⟨bp, 0, none⟩ = some (.int .i64 p.proto) ∧ wy.cell? ⟨bp, 1, none⟩ = some (.int .i64 p.cap) ∧ wy.cell? ⟨bp, 2, none⟩ = some (.int .i64 p.k) ∧ wy.cell? ⟨bp, 3, none⟩ = some (.slice h.an p.nodes.length h.cn) ∧ wy.cell? ⟨bp, 4, none⟩ = some (.slice h.al p.links.length h.cl) ∧ wy.cell? ⟨bp, 5, none⟩ = some (.slice h.ad p.dests.length h.cd) ∧ wy.cell? ⟨bp, 6, none⟩ = some (.slice h.ac p.checks.length h.cc)) := Lib.hid (fun wy a => a.1.pb.all)
  have CS : Hid (∀ wy, NW w wy bp p h [] ∧ RtsR wy wy.heap.size Z A → Calls Tryz.prog 16 #[.agg #[.int .i64 p.proto, .int .i64 p.cap, .int .i64 p.k, .slice h.an p.nodes.length h.cn, .slice h.al p.links.length h.cl, .slice h.ad p.dests.length h.cd, .slice h.ac p.checks.length h.cc], .int .i64 x, .int .i64 0, .int .i64 ((p.nodes.length : Int) + 1 + m)] wy fun e w' => ∃ (Y : List RtZ) (A' : Option Addr) (c' : Nat), e = .returned (.tuple #[.slice A' Y.length c', .int .i64 R, .int .i64 0]) ∧ Y.map (·.1) = stL p (runF p x 0 R) ∧ RtsR w' w'.heap.size Y A' ∧ NW w w' bp p h [] ∧ RtsR w' w'.heap.size Z A) := Lib.hid (fun wy a =>
    (solve_any p h x 0 ((p.nodes.length : Int) + 1 + m) R wy a.1.net GD.out HD0.out HS.out hR).mono fun e w' hpost => by
      obtain ⟨Y, A', c', h1, h2, h3⟩ := solve_ok hpost (by omega)
      exact ⟨Y, A', c', h1, h2, h3.rts, a.1.call h3.below, a.2.call h3.below⟩)
  have hN5 : NW w w5.drew bp p h [] ∧ RtsR w5.drew w5.drew.heap.size Z A := ⟨P5.out.drew, LZ.out.call (below_drew (Below.refl _ _))⟩
  clear g0 g1 g2 g3 g4 g5 g6
  refine wp_region_held_drew (S := (fun wy => wy.cell? ⟨bp, 0, none⟩ = some (.int .i64 p.proto) ∧ wy.cell? ⟨bp, 1, none⟩ = some (.int .i64 p.cap) ∧ wy.cell? ⟨bp, 2, none⟩ = some (.int .i64 p.k) ∧ wy.cell? ⟨bp, 3, none⟩ = some (.slice h.an p.nodes.length h.cn) ∧ wy.cell? ⟨bp, 4, none⟩ = some (.slice h.al p.links.length h.cl) ∧ wy.cell? ⟨bp, 5, none⟩ = some (.slice h.ad p.dests.length h.cd) ∧ wy.cell? ⟨bp, 6, none⟩ = some (.slice h.ac p.checks.length h.cc))) (by kernel_rfl) (HC.out _ hN5) (fun hHeld0 => ?_)
  refine take_list (i := 0) (v := ?_) rfl (by kernel_rfl) (by kernel_rfl) (by kernel_rfl) (fun _ _ _ h => h) (Or.inl ⟨by rfl, ?_⟩) (by assumption) ?_
  rotate_left
  · (intro w hSw; (try dsimp only at hSw); go_simp; try (with_reducible rfl))
  try simp only [Act.put, List.setIfInBounds_toArray, List.set_cons_zero, List.set_cons_succ]
  refine take_list (i := 1) (v := ?_) rfl (by kernel_rfl) (by kernel_rfl) (by kernel_rfl) (fun _ _ _ h => h) (Or.inl ⟨by rfl, ?_⟩) (by assumption) ?_
  rotate_left
  · (intro w hSw; (try dsimp only at hSw); go_simp; try (with_reducible rfl))
  try simp only [Act.put, List.setIfInBounds_toArray, List.set_cons_zero, List.set_cons_succ]
  refine take_list (i := 2) (v := ?_) rfl (by kernel_rfl) (by kernel_rfl) (by kernel_rfl) (fun _ _ _ h => h) (Or.inl ⟨by rfl, ?_⟩) (by assumption) ?_
  rotate_left
  · (intro w hSw; (try dsimp only at hSw); go_simp; try (with_reducible rfl))
  try simp only [Act.put, List.setIfInBounds_toArray, List.set_cons_zero, List.set_cons_succ]
  refine take_list (i := 3) (v := ?_) rfl (by kernel_rfl) (by kernel_rfl) (by kernel_rfl) (fun _ _ _ h => h) (Or.inl ⟨by rfl, ?_⟩) (by assumption) ?_
  rotate_left
  · (intro w hSw; (try dsimp only at hSw); go_simp; try (with_reducible rfl))
  try simp only [Act.put, List.setIfInBounds_toArray, List.set_cons_zero, List.set_cons_succ]
  refine wpAnyH_ready (rs := [4]) (by kernel_rfl) (by simp) ?_
  refine cons_list rfl (fun K hK => ?_) AllReadyH.nil
  go_simp
  (go_at_call 15; refine (HPK.out _).mono ?_; rintro e w6 ⟨rfl, rfl⟩)
  refine hK.out _ _ (HC.out _ (by assumption)) (fun hHeld1 => ?_)
  clear hK K hHeld0
  try simp only [Act.put, List.setIfInBounds_toArray, List.set_cons_zero, List.set_cons_succ]
  refine take_list (i := 5) (v := ?_) rfl (by kernel_rfl) (by kernel_rfl) (by kernel_rfl) (fun _ _ _ h => h) (Or.inl ⟨by rfl, ?_⟩) (by assumption) ?_
  rotate_left
  · (intro w hSw; (try dsimp only at hSw); go_simp; try (with_reducible rfl))
  try simp only [Act.put, List.setIfInBounds_toArray, List.set_cons_zero, List.set_cons_succ]
  refine wpAnyH_ready (rs := [6]) (by kernel_rfl) (by simp) ?_
  refine cons_list rfl (fun K hK => ?_) AllReadyH.nil
  go_simp
  (go_at_call 16; refine (CS.out _ hN5).mono ?_; rintro e w7 ⟨Y, A', c', rfl, hY, hYr, hN7⟩)
  refine hK.out _ _ (HC.out _ (by assumption)) (fun hHeld2 => ?_)
  clear hK K hHeld1
  try simp only [Act.put, List.setIfInBounds_toArray, List.set_cons_zero, List.set_cons_succ]
  refine take_list (i := 7) (v := ?_) rfl (by kernel_rfl) (by kernel_rfl) (by kernel_rfl) (fun _ _ _ h => h) (Or.inl ⟨by rfl, ?_⟩) (by assumption) ?_
  rotate_left
  · (intro w hSw; (try dsimp only at hSw); go_simp; try (with_reducible rfl))
  try simp only [Act.put, List.setIfInBounds_toArray, List.set_cons_zero, List.set_cons_succ]
  refine take_list (i := 8) (v := ?_) rfl (by kernel_rfl) (by kernel_rfl) (by kernel_rfl) (fun _ _ _ h => h) (Or.inl ⟨by rfl, ?_⟩) (by assumption) ?_
  rotate_left
  · (intro w hSw; (try dsimp only at hSw); go_simp; try (with_reducible rfl))
  try simp only [Act.put, List.setIfInBounds_toArray, List.set_cons_zero, List.set_cons_succ]
  refine take_list (i := 11) (v := ?_) rfl (by kernel_rfl) (by kernel_rfl) (by kernel_rfl) (fun _ _ _ h => h) (Or.inl ⟨by rfl, ?_⟩) (by assumption) ?_
  rotate_left
  · (intro w hSw; (try dsimp only at hSw); go_simp; try (with_reducible rfl))
  try simp only [Act.put, List.setIfInBounds_toArray, List.set_cons_zero, List.set_cons_succ]
  refine take_list (i := 9) (v := ?_) rfl (by kernel_rfl) (by kernel_rfl) (by kernel_rfl) (fun _ _ _ h => h) (Or.inl ⟨by rfl, ?_⟩) (by assumption) ?_
  rotate_left
  · (intro w hSw; (try dsimp only at hSw); go_simp; try (with_reducible rfl))
  try simp only [Act.put, List.setIfInBounds_toArray, List.set_cons_zero, List.set_cons_succ]
  refine take_list (i := 12) (v := ?_) rfl (by kernel_rfl) (by kernel_rfl) (by kernel_rfl) (fun _ _ _ h => h) (Or.inl ⟨by rfl, ?_⟩) (by assumption) ?_
  rotate_left
  · (intro w hSw; (try dsimp only at hSw); go_simp; try (with_reducible rfl))
  try simp only [Act.put, List.setIfInBounds_toArray, List.set_cons_zero, List.set_cons_succ]
  refine take_list (i := 10) (v := ?_) rfl (by kernel_rfl) (by kernel_rfl) (by kernel_rfl) (fun _ _ _ h => h) (Or.inl ⟨by rfl, ?_⟩) (by assumption) ?_
  rotate_left
  · (intro w hSw; (try dsimp only at hSw); go_simp; try (with_reducible rfl))
  try simp only [Act.put, List.setIfInBounds_toArray, List.set_cons_zero, List.set_cons_succ]
  refine take_list (i := 13) (v := ?_) rfl (by kernel_rfl) (by kernel_rfl) (by kernel_rfl) (fun _ _ _ h => h) (Or.inl ⟨by rfl, ?_⟩) (by assumption) ?_
  rotate_left
  · (intro w hSw; (try dsimp only at hSw); go_simp; try (with_reducible rfl))
  try simp only [Act.put, List.setIfInBounds_toArray, List.set_cons_zero, List.set_cons_succ]
  refine wpAnyH_done (by kernel_rfl) ?_ _
  clear hHeld2
  have P7 := Lib.hid hN7.1
  have Z7 := Lib.hid hN7.2
  have Y7 := Lib.hid hYr
  have HY := Lib.hid hY
  have hY12 : Y.length ≤ 12 := by have := len_of hY; omega
  have hR12 : R ≤ 12 := by omega
  clear hN5 hN7 hYr hY hwr HPK
  obtain ⟨g0, g1, g2, g3, g4, g5, g6⟩ := P7.out.pb.all
  go_wp2_with fail
  refine (solve_any p h x 0 (R : Int) R _ P7.out.net GD.out HD0.out HS.out hR).mono ?_
  rintro e w8 hpost
  obtain ⟨rfl, hb8⟩ := solve_bad hpost (by omega)
  have P8 := Lib.hid (P7.out.call hb8)
  have Z8 := Lib.hid (Z7.out.call hb8)
  have Y8 := Lib.hid (Y7.out.call hb8)
  clear hpost hb8 g0 g1 g2 g3 g4 g5 g6
  obtain ⟨g0, g1, g2, g3, g4, g5, g6⟩ := P8.out.pb.all
  go_wp2_with fail
  refine (solve_any p h x 0 ((R : Int) + 1) R _ P8.out.net GD.out HD0.out HS.out hR).mono ?_
  rintro e w9 hpost
  obtain ⟨X, A9, c9, rfl, hX, hL⟩ := solve_ok hpost (by omega)
  have P9 := Lib.hid (P8.out.call hL.below)
  have Z9 := Lib.hid (Z8.out.call hL.below)
  have Y9 := Lib.hid (Y8.out.call hL.below)
  have X9 := Lib.hid hL.rts
  have HX := Lib.hid hX
  have hX12 : X.length ≤ 12 := by have := len_of hX; omega
  have hRn : (R : Int) ≤ (p.nodes.length : Int) := by omega
  clear hpost hX hL g0 g1 g2 g3 g4 g5 g6
  obtain ⟨g0, g1, g2, g3, g4, g5, g6⟩ := P9.out.pb.all
  go_wp2_with fail
  refine (refSame9_any Z Y A A' c c' _ Z9.out Y9.out (by omega) (by omega)).mono ?_
  rintro e w10 ⟨rfl, hb10⟩
  rw [HZ.out, HY.out, show decide (stL p (runF p x 0 R) = stL p (runF p x 0 R)) = true from decide_eq_true rfl]
  have P10 := Lib.hid (P9.out.call hb10)
  have Z10 := Lib.hid (Z9.out.call hb10)
  have X10 := Lib.hid (X9.out.call hb10)
  clear hb10 g0 g1 g2 g3 g4 g5 g6
  go_wp2_with fail
  refine (refSame9_any X Z A9 A c9 c _ X10.out Z10.out (by omega) (by omega)).mono ?_
  rintro e w11 ⟨rfl, hb11⟩
  rw [HX.out, HZ.out, show decide (stL p (runF p x 0 R) = stL p (runF p x 0 R)) = true from decide_eq_true rfl]
  have P11 := Lib.hid (P10.out.call hb11)
  clear hb11
  go_wp2
  go_ret
  exact ⟨rfl, P11.out.pb.below⟩
end Go.Proofs.YtablbagdnmbbfaaGreat

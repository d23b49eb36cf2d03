/- The walk of backstaylaw10.StableFewer. -/
import Derived.Test.YtablbagdnmbbfaaGreatLaw10
import Derived.Test.YtablbagdnmbbfaaGreatFewerP
import Derived.Test.YtablbagdnmbbfaaGreatLaws
namespace Go.Proofs.YtablbagdnmbbfaaGreat
set_option linter.unusedSimpArgs false
set_option linter.unusedVariables false
open Go.RowKit

attribute [local go_sem ↓] Go.wp_at_zero Go.wp_at_succ
set_option maxRecDepth 100000 in
set_option maxHeartbeats 8000000 in
theorem stableFewer_walk (a0 : Option Addr) (c0 : Nat) (l0 : List Int) (n1 n2 : Int) (w : World) (h0 : InRow w a0 c0 l0) (k1 : In64 n1) (k2 : In64 n2) :
    Calls Tryz.prog 6 #[.slice a0 l0.length c0, .int .i64 n1, .int .i64 n2] w fun e w' => e = .returned (.bool true) ∧ Below w.heap.size w w' := by
  have I1 := Lib.hid k1
  have I2 := Lib.hid k2
  have H0 := Lib.hid h0
  clear k1 k2 h0
  go_enter Tryz.func6, Tryz.ntmps6
  go_wp2_with fail
  refine (awake10 _).mono ?_
  rintro e w1 ⟨rfl, hb1⟩
  have J0 := Lib.hid (H0.out.call hb1)
  have B1 := Lib.hid hb1
  clear hb1
  go_wp2_with fail
  refine (net_any _ _ l0 c0 J0.out.len J0.out.le J0.out.rd J0.out.in64).mono ?_
  rintro e w2 ⟨p, h, rfl, hok, hown, hb⟩
  have OK := Lib.hid hok
  have T0 : Hid (TurnW w (w2.alloc (.cells #[.int .i64 p.proto, .int .i64 p.cap, .int .i64 p.k, .slice h.an p.nodes.length h.cn, .slice h.al p.links.length h.cl, .slice h.ad p.dests.length h.cd, .slice h.ac p.checks.length h.cc] 30)) w1.heap.size w2.heap.size p h 0) := Lib.hid ⟨since_alloc (since_trans B1.out hb) _, NetOwn.alloc hown _, heap_alloc_new _ _, B1.out.size⟩
  have hn2 := hok.n.1
  have hn7 := hok.n.2
  obtain ⟨g, off, he⟩ : ∃ g off, h.an = some ⟨g, off, none⟩ := by
    obtain ⟨g, off, cur, e, -⟩ := hown.nodes.2.2.2.2.2 (by have := hown.nodes.2.1; omega)
    exact ⟨g, off, e⟩
  have HE := Lib.hid he
  clear hb hown hok J0 he
  unfold netV netVal
  go_upto_region 4 with fail
  generalize (w2.alloc (.cells #[.int .i64 p.proto, .int .i64 p.cap, .int .i64 p.k, .slice h.an p.nodes.length h.cn, .slice h.al p.links.length h.cl, .slice h.ad p.dests.length h.cd, .slice h.ac p.checks.length h.cc] 30)) = w3 at *
  generalize w2.heap.size = bp at *
  clear B1
  go_wp2_with fail
  go_loopw [9] (fun si wx => ∃ k : Nat, k ≤ p.nodes.length ∧ si = .int .i64 k ∧ TurnW w wx w1.heap.size bp p h k) (fun si _ => p.nodes.length - (intOf si).toNat)
  case atStart => exact ⟨0, Nat.zero_le _, rfl, T0.out⟩
  case round =>
    obtain ⟨k, hk, rfl, hT⟩ := hrel
    have TX := Lib.hid hT
    have g3 := hT.at_
    rw [HE.out] at g3
    clear hT
    by_cases hlt : k < p.nodes.length
    · obtain ⟨hs, ⟨u, hu⟩, hf⟩ := TX.out.step hlt HE.out
      have hu' : wr.cell? ⟨g, off + k * 2 + 1, none⟩ = some (.int .i64 u) := hu
      have hf' : wr.frozen? ⟨g, off + k * 2 + 1, none⟩ = false := hf
      have HS := Lib.hid (show TurnW w (wr.setCell ⟨g, off + k * 2 + 1, none⟩ (.int .i64 (100 + k))) w1.heap.size bp p h (k + 1) from hs)
      have hk0 : (0 : Int) ≤ (k : Int) := by omega
      clear hs hu hf
      go_wp2
      go_roundw
      case rel => exact ⟨k + 1, by omega, by go_num, HS.out⟩
      case measure => simp [intOf]; omega
    · obtain rfl : k = p.nodes.length := by omega
      have P0 : Hid (NW w wr bp (reNet p p.nodes.length) h []) := Lib.hid ⟨TX.out.pb, by intro z hz; cases hz⟩
      have GD := Lib.hid (reNet_good OK.out.good (by omega) p.nodes.length)
      have NG := Lib.hid GD.out.netG
      have HU := Lib.hid (reNet_unlike p)
      have HD0 := Lib.hid (dest0 (p := reNet p p.nodes.length) (show 0 < p.dests.length by have := OK.out.d12.1; omega))
      have hqn := reNet_n p p.nodes.length
      have HQ : Hid ((reNet p p.nodes.length).nodes.length ≤ 7 ∧ 2 ≤ (reNet p p.nodes.length).nodes.length) := Lib.hid (by omega)
      have HQN := Lib.hid hqn
      clear hk hqn
      go_wp2_with fail
      clear g3
      clear hlt
      generalize hqq : reNet p p.nodes.length = q at *
      have hq7 := HQ.out.1
      obtain ⟨g0, g1, g2, g3, g4, g5, g6⟩ := P0.out.pb.all
      refine (pick10_any n1 512 _ I1.out (by omega) (by omega)).mono ?_
      rintro e w' ⟨rfl, rfl⟩
      generalize pickV n1 512 = x at *
      have HPK := Lib.hid (fun (wy : World) => pick10_any n2 512 wy I2.out (by omega) (by omega))
      generalize pickV n2 512 = y at *
      obtain ⟨R, hR, hS⟩ := stop_ex (p := q) (f := x) (d := 0) NG.out
      obtain ⟨R', hR', hS'⟩ := stop_ex (p := q) (f := bits BinOp.or IntKind.i64 x y) (d := 0) NG.out
      have HS := Lib.hid hS
      have HS' := Lib.hid hS'
      have HFW := Lib.hid (fun i => end_fewer (f := x) (g := bits BinOp.or IntKind.i64 x y) (d := 0) NG.out HU.out (fun i hi => by rw [hasB_or, hi]; rfl) i)
      clear hS hS'
      go_wp2_with fail
      refine (solve_any q h x 0 99 R _ P0.out.net GD.out HD0.out HS.out hR).mono ?_
      rintro e w4 hpost
      obtain ⟨Z, A, c, rfl, hZ, hL⟩ := solve_ok hpost (by omega)
      have P4 := Lib.hid (P0.out.call hL.below)
      have HZ := Lib.hid (hZ.trans (HS.out.end_ NG.out GD.out.lksOk))
      have LZ := Lib.hid hL.rts
      have HZl := Lib.hid (len_of hZ)
      clear hpost hZ hL g0 g1 g2 g3 g4 g5 g6
      obtain ⟨g0, g1, g2, g3, g4, g5, g6⟩ := P4.out.pb.all
      go_upto_region 9 with fail
      have HC : Hid (∀ wy, NW w wy bp q h [] ∧ RtsR wy wy.heap.size Z A → wy.cell? ⟨bp, 0, none⟩ = some (.int .i64 q.proto) ∧ wy.cell? ⟨bp, 1, none⟩ = some (.int .i64 q.cap) ∧ wy.cell? ⟨bp, 2, none⟩ = some (.int .i64 q.k) ∧ wy.cell? ⟨bp, 3, none⟩ = some (.slice h.an q.nodes.length h.cn) ∧ wy.cell? ⟨bp, 4, none⟩ = some (.slice h.al q.links.length h.cl) ∧ wy.cell? ⟨bp, 5, none⟩ = some (.slice h.ad q.dests.length h.cd) ∧ wy.cell? ⟨bp, 6, none⟩ = some (.slice h.ac q.checks.length h.cc)) := Lib.hid (fun wy a => a.1.pb.all)
      have CS : Hid (∀ wy, NW w wy bp q h [] ∧ RtsR wy wy.heap.size Z A → Calls Tryz.prog 16 #[.agg #[.int .i64 q.proto, .int .i64 q.cap, .int .i64 q.k, .slice h.an q.nodes.length h.cn, .slice h.al q.links.length h.cl, .slice h.ad q.dests.length h.cd, .slice h.ac q.checks.length h.cc], .int .i64 (bits BinOp.or IntKind.i64 x y), .int .i64 0, .int .i64 99] wy fun e w' => ∃ (Y : List RtZ) (A' : Option Addr) (c' : Nat), e = .returned (.tuple #[.slice A' Y.length c', .int .i64 R', .int .i64 0]) ∧ Y.map (·.1) = stL q (endF q (bits BinOp.or IntKind.i64 x y) 0) ∧ RtsR w' w'.heap.size Y A' ∧ NW w w' bp q h [] ∧ RtsR w' w'.heap.size Z A) := Lib.hid (fun wy a =>
        (solve_any q h (bits BinOp.or IntKind.i64 x y) 0 99 R' wy a.1.net GD.out HD0.out HS'.out hR').mono fun e w' hpost => by
          obtain ⟨Y, A', c', h1, h2, h3⟩ := solve_ok hpost (by omega)
          exact ⟨Y, A', c', h1, h2.trans (HS'.out.end_ NG.out GD.out.lksOk), h3.rts, a.1.call h3.below, a.2.call h3.below⟩)
      have hN5 : NW w w4.drew bp q h [] ∧ RtsR w4.drew w4.drew.heap.size Z A := ⟨P4.out.drew, LZ.out.call (below_drew (Below.refl _ _))⟩
      clear g0 g1 g2 g3 g4 g5 g6
      refine wp_region_held_drew (S := (fun wy => wy.cell? ⟨bp, 0, none⟩ = some (.int .i64 q.proto) ∧ wy.cell? ⟨bp, 1, none⟩ = some (.int .i64 q.cap) ∧ wy.cell? ⟨bp, 2, none⟩ = some (.int .i64 q.k) ∧ wy.cell? ⟨bp, 3, none⟩ = some (.slice h.an q.nodes.length h.cn) ∧ wy.cell? ⟨bp, 4, none⟩ = some (.slice h.al q.links.length h.cl) ∧ wy.cell? ⟨bp, 5, none⟩ = some (.slice h.ad q.dests.length h.cd) ∧ wy.cell? ⟨bp, 6, none⟩ = some (.slice h.ac q.checks.length h.cc))) (by kernel_rfl) (HC.out _ hN5) (fun hHeld0 => ?_)
      refine take_list (i := 0) (v := ?_) rfl (by kernel_rfl) (by kernel_rfl) (by kernel_rfl) (fun _ _ _ h => h) (Or.inl ⟨by rfl, ?_⟩) (by assumption) ?_
      rotate_left
      · (intro w hSw; (try dsimp only at hSw); go_simp; try (with_reducible rfl))
      try simp only [Act.put, List.setIfInBounds_toArray, List.set_cons_zero, List.set_cons_succ]
      refine take_list (i := 1) (v := ?_) rfl (by kernel_rfl) (by kernel_rfl) (by kernel_rfl) (fun _ _ _ h => h) (Or.inl ⟨by rfl, ?_⟩) (by assumption) ?_
      rotate_left
      · (intro w hSw; (try dsimp only at hSw); go_simp; try (with_reducible rfl))
      try simp only [Act.put, List.setIfInBounds_toArray, List.set_cons_zero, List.set_cons_succ]
      refine take_list (i := 2) (v := ?_) rfl (by kernel_rfl) (by kernel_rfl) (by kernel_rfl) (fun _ _ _ h => h) (Or.inl ⟨by rfl, ?_⟩) (by assumption) ?_
      rotate_left
      · (intro w hSw; (try dsimp only at hSw); go_simp; try (with_reducible rfl))
      try simp only [Act.put, List.setIfInBounds_toArray, List.set_cons_zero, List.set_cons_succ]
      refine wpAnyH_ready (rs := [3]) (by kernel_rfl) (by simp) ?_
      refine cons_list rfl (fun K hK => ?_) AllReadyH.nil
      go_simp
      (go_at_call 15; refine (HPK.out _).mono ?_; rintro e w6 ⟨rfl, rfl⟩)
      refine hK.out _ _ (HC.out _ (by assumption)) (fun hHeld1 => ?_)
      clear hK K hHeld0
      try simp only [Act.put, List.setIfInBounds_toArray, List.set_cons_zero, List.set_cons_succ]
      refine take_list (i := 4) (v := ?_) rfl (by kernel_rfl) (by kernel_rfl) (by kernel_rfl) (fun _ _ _ h => h) (Or.inl ⟨by rfl, ?_⟩) (by assumption) ?_
      rotate_left
      · (intro w hSw; (try dsimp only at hSw); go_simp; try (with_reducible rfl))
      try simp only [Act.put, List.setIfInBounds_toArray, List.set_cons_zero, List.set_cons_succ]
      refine wpAnyH_ready (rs := [5]) (by kernel_rfl) (by simp) ?_
      refine cons_list rfl (fun K hK => ?_) AllReadyH.nil
      go_simp
      (go_at_call 16; refine (CS.out _ hN5).mono ?_; rintro e w7 ⟨Y, A', c', rfl, hY, hYr, hN7⟩)
      refine hK.out _ _ (HC.out _ (by assumption)) (fun hHeld2 => ?_)
      clear hK K hHeld1
      try simp only [Act.put, List.setIfInBounds_toArray, List.set_cons_zero, List.set_cons_succ]
      refine take_list (i := 6) (v := ?_) rfl (by kernel_rfl) (by kernel_rfl) (by kernel_rfl) (fun _ _ _ h => h) (Or.inl ⟨by rfl, ?_⟩) (by assumption) ?_
      rotate_left
      · (intro w hSw; (try dsimp only at hSw); go_simp; try (with_reducible rfl))
      try simp only [Act.put, List.setIfInBounds_toArray, List.set_cons_zero, List.set_cons_succ]
      refine take_list (i := 7) (v := ?_) rfl (by kernel_rfl) (by kernel_rfl) (by kernel_rfl) (fun _ _ _ h => h) (Or.inl ⟨by rfl, ?_⟩) (by assumption) ?_
      rotate_left
      · (intro w hSw; (try dsimp only at hSw); go_simp; try (with_reducible rfl))
      try simp only [Act.put, List.setIfInBounds_toArray, List.set_cons_zero, List.set_cons_succ]
      refine take_list (i := 10) (v := ?_) rfl (by kernel_rfl) (by kernel_rfl) (by kernel_rfl) (fun _ _ _ h => h) (Or.inl ⟨by rfl, ?_⟩) (by assumption) ?_
      rotate_left
      · (intro w hSw; (try dsimp only at hSw); go_simp; try (with_reducible rfl))
      try simp only [Act.put, List.setIfInBounds_toArray, List.set_cons_zero, List.set_cons_succ]
      refine take_list (i := 8) (v := ?_) rfl (by kernel_rfl) (by kernel_rfl) (by kernel_rfl) (fun _ _ _ h => h) (Or.inl ⟨by rfl, ?_⟩) (by assumption) ?_
      rotate_left
      · (intro w hSw; (try dsimp only at hSw); go_simp; try (with_reducible rfl))
      try simp only [Act.put, List.setIfInBounds_toArray, List.set_cons_zero, List.set_cons_succ]
      refine take_list (i := 11) (v := ?_) rfl (by kernel_rfl) (by kernel_rfl) (by kernel_rfl) (fun _ _ _ h => h) (Or.inl ⟨by rfl, ?_⟩) (by assumption) ?_
      rotate_left
      · (intro w hSw; (try dsimp only at hSw); go_simp; try (with_reducible rfl))
      try simp only [Act.put, List.setIfInBounds_toArray, List.set_cons_zero, List.set_cons_succ]
      refine take_list (i := 9) (v := ?_) rfl (by kernel_rfl) (by kernel_rfl) (by kernel_rfl) (fun _ _ _ h => h) (Or.inl ⟨by rfl, ?_⟩) (by assumption) ?_
      rotate_left
      · (intro w hSw; (try dsimp only at hSw); go_simp; try (with_reducible rfl))
      try simp only [Act.put, List.setIfInBounds_toArray, List.set_cons_zero, List.set_cons_succ]
      refine take_list (i := 12) (v := ?_) rfl (by kernel_rfl) (by kernel_rfl) (by kernel_rfl) (fun _ _ _ h => h) (Or.inl ⟨by rfl, ?_⟩) (by assumption) ?_
      rotate_left
      · (intro w hSw; (try dsimp only at hSw); go_simp; try (with_reducible rfl))
      try simp only [Act.put, List.setIfInBounds_toArray, List.set_cons_zero, List.set_cons_succ]
      refine wpAnyH_done (by kernel_rfl) ?_ _
      clear hHeld2
      have P7 := Lib.hid hN7.1
      have Z7 := Lib.hid hN7.2
      have Y7 := Lib.hid hYr
      have HY := Lib.hid hY
      have HYl := Lib.hid (len_of hY)
      have hq1 : ((Z.length : Int) != (Y.length : Int)) = false := by have h1 := HYl.out; have h2 := HZl.out; simp; omega
      have hq2 : ((Z.length : Int) != (q.nodes.length : Int)) = false := by have h2 := HZl.out; simp; omega
      have hZ12 : Z.length ≤ 12 := by have h2 := HZl.out; omega
      clear hN5 hN7 hYr hY
      obtain ⟨g0, g1, g2, g3, g4, g5, g6⟩ := P7.out.pb.all
      go_wp2_with fail
      clear g0 g1 g2 g3 g4 g5 g6
      go_loopw [17] (fun si wx => ∃ k : Nat, k ≤ Z.length ∧ si = .int .i64 k ∧ Below w7.heap.size w7 wx) (fun si _ => Z.length - (intOf si).toNat)
      case atStart => exact ⟨0, Nat.zero_le _, rfl, Below.refl _ _⟩
      case round =>
        obtain ⟨k, hk, rfl, hB⟩ := hrel
        have BX := Lib.hid hB
        by_cases hlt : k < Z.length
        · obtain ⟨z, hz⟩ : ∃ z, Z[k]? = some z := ⟨_, List.getElem?_eq_getElem hlt⟩
          obtain ⟨y, hy⟩ : ∃ y, Y[k]? = some y := ⟨_, List.getElem?_eq_getElem (by have h1 := HYl.out; have h2 := HZl.out; omega)⟩
          have hbt : betterB y.1 z.1 = false := by
            have ez : (Z.map (·.1))[k]? = some z.1 := by rw [List.getElem?_map, hz]; rfl
            have ey : (Y.map (·.1))[k]? = some y.1 := by rw [List.getElem?_map, hy]; rfl
            rw [HZ.out, stL_at (by have h2 := HZl.out; omega)] at ez
            rw [HY.out, stL_at (by have h2 := HZl.out; omega)] at ey
            injection ez with ez
            injection ey with ey
            rw [← ez, ← ey]; exact HFW.out k
          obtain ⟨b, o, rfl, hb, z0, z1, z2⟩ := Z7.out.at_ hz
          obtain ⟨b', o', rfl, hb', y0, y1, y2⟩ := Y7.out.at_ hy
          have HRZ := Lib.hid (Z7.out.each z (List.mem_of_getElem? hz))
          have HRY := Lib.hid (Y7.out.each y (List.mem_of_getElem? hy))
          have HC2 : Hid (∀ wy, Below w7.heap.size w7 wy → (wy.cell? ⟨b, o + k * 3, none⟩ = some (.int .i64 z.1.kind) ∧ wy.cell? ⟨b, o + k * 3 + 1, none⟩ = some (.int .i64 z.1.cost) ∧ wy.cell? ⟨b, o + k * 3 + 2, none⟩ = some (.slice z.2.1 z.1.path.length z.2.2)) ∧ wy.cell? ⟨b', o' + k * 3, none⟩ = some (.int .i64 y.1.kind) ∧ wy.cell? ⟨b', o' + k * 3 + 1, none⟩ = some (.int .i64 y.1.cost) ∧ wy.cell? ⟨b', o' + k * 3 + 2, none⟩ = some (.slice y.2.1 y.1.path.length y.2.2)) := Lib.hid (fun wy hb2 =>
            ⟨⟨(hb2.cell (p := ⟨b, _, none⟩) hb).trans z0, (hb2.cell (p := ⟨b, _, none⟩) hb).trans z1, (hb2.cell (p := ⟨b, _, none⟩) hb).trans z2⟩, (hb2.cell (p := ⟨b', _, none⟩) hb').trans y0, (hb2.cell (p := ⟨b', _, none⟩) hb').trans y1, (hb2.cell (p := ⟨b', _, none⟩) hb').trans y2⟩)
          have CB : Hid (∀ wy, Below w7.heap.size w7 wy → Calls Tryz.prog 24 #[.agg #[.int .i64 y.1.kind, .int .i64 y.1.cost, .slice y.2.1 y.1.path.length y.2.2], .agg #[.int .i64 z.1.kind, .int .i64 z.1.cost, .slice z.2.1 z.1.path.length z.2.2]] wy fun e w' => e = .returned (.bool false) ∧ Below w7.heap.size w7 w') := Lib.hid (fun wy hb2 =>
            (better_rt y.1 z.1 y.2.1 z.2.1 y.2.2 z.2.2 wy ((HRY.out.below hb2 (Nat.le_refl _)).more hb2.size) ((HRZ.out.below hb2 (Nat.le_refl _)).more hb2.size)).mono fun e w' ⟨h1, h2⟩ => ⟨by rw [h1, hbt], since_trans hb2 h2⟩)
          have hk0 : (0 : Int) ≤ (k : Int) := by omega
          have hkY : (k : Int) < (Y.length : Int) := by have h1 := HYl.out; have h2 := HZl.out; omega
          have hkY' : k < Y.length := by omega
          clear hz hy z0 z1 z2 y0 y1 y2 hb hb' hq1 hq2 hbt
          go_upto_region 15 with fail
          have hBd := below_drew hB
          refine wp_region_held_drew (S := (fun wy => (wy.cell? ⟨b, o + k * 3, none⟩ = some (.int .i64 z.1.kind) ∧ wy.cell? ⟨b, o + k * 3 + 1, none⟩ = some (.int .i64 z.1.cost) ∧ wy.cell? ⟨b, o + k * 3 + 2, none⟩ = some (.slice z.2.1 z.1.path.length z.2.2)) ∧ wy.cell? ⟨b', o' + k * 3, none⟩ = some (.int .i64 y.1.kind) ∧ wy.cell? ⟨b', o' + k * 3 + 1, none⟩ = some (.int .i64 y.1.cost) ∧ wy.cell? ⟨b', o' + k * 3 + 2, none⟩ = some (.slice y.2.1 y.1.path.length y.2.2))) (by kernel_rfl) (HC2.out _ hBd) (fun hHeld0 => ?_)
          refine take_list (i := 0) (v := ?_) rfl (by kernel_rfl) (by kernel_rfl) (by kernel_rfl) (fun _ _ _ h => h) (Or.inl ⟨by rfl, ?_⟩) (by assumption) ?_
          rotate_left
          · (intro w hSw; (try dsimp only at hSw); go_simp; try (with_reducible rfl))
          try simp only [Act.put, List.setIfInBounds_toArray, List.set_cons_zero, List.set_cons_succ]
          refine take_list (i := 1) (v := ?_) rfl (by kernel_rfl) (by kernel_rfl) (by kernel_rfl) (fun _ _ _ h => h) (Or.inl ⟨by rfl, ?_⟩) (by assumption) ?_
          rotate_left
          · (intro w hSw; (try dsimp only at hSw); go_simp; try (with_reducible rfl))
          try simp only [Act.put, List.setIfInBounds_toArray, List.set_cons_zero, List.set_cons_succ]
          refine take_list (i := 2) (v := ?_) rfl (by kernel_rfl) (by kernel_rfl) (by kernel_rfl) (fun _ _ _ h => h) (Or.inl ⟨by rfl, ?_⟩) (by assumption) ?_
          rotate_left
          · (intro w hSw; (try dsimp only at hSw); go_simp; try (with_reducible rfl))
          try simp only [Act.put, List.setIfInBounds_toArray, List.set_cons_zero, List.set_cons_succ]
          refine take_list (i := 3) (v := ?_) rfl (by kernel_rfl) (by kernel_rfl) (by kernel_rfl) (fun _ _ _ h => h) (Or.inl ⟨by rfl, ?_⟩) (by assumption) ?_
          rotate_left
          · (intro w hSw; (try dsimp only at hSw); go_simp; try (with_reducible rfl))
          try simp only [Act.put, List.setIfInBounds_toArray, List.set_cons_zero, List.set_cons_succ]
          refine take_list (i := 4) (v := ?_) rfl (by kernel_rfl) (by kernel_rfl) (by kernel_rfl) (fun _ _ _ h => h) (Or.inl ⟨by rfl, ?_⟩) (by assumption) ?_
          rotate_left
          · (intro w hSw; (try dsimp only at hSw); go_simp; try (with_reducible rfl))
          try simp only [Act.put, List.setIfInBounds_toArray, List.set_cons_zero, List.set_cons_succ]
          refine take_list (i := 5) (v := ?_) rfl (by kernel_rfl) (by kernel_rfl) (by kernel_rfl) (fun _ _ _ h => h) (Or.inl ⟨by rfl, ?_⟩) (by assumption) ?_
          rotate_left
          · (intro w hSw; (try dsimp only at hSw); go_simp; try (with_reducible rfl))
          try simp only [Act.put, List.setIfInBounds_toArray, List.set_cons_zero, List.set_cons_succ]
          refine take_list (i := 6) (v := ?_) rfl (by kernel_rfl) (by kernel_rfl) (by kernel_rfl) (fun _ _ _ h => h) (Or.inl ⟨by rfl, ?_⟩) (by assumption) ?_
          rotate_left
          · (intro w hSw; (try dsimp only at hSw); go_simp; try (with_reducible rfl))
          try simp only [Act.put, List.setIfInBounds_toArray, List.set_cons_zero, List.set_cons_succ]
          refine take_list (i := 7) (v := ?_) rfl (by kernel_rfl) (by kernel_rfl) (by kernel_rfl) (fun _ _ _ h => h) (Or.inl ⟨by rfl, ?_⟩) (by assumption) ?_
          rotate_left
          · (intro w hSw; (try dsimp only at hSw); go_simp; try (with_reducible rfl))
          try simp only [Act.put, List.setIfInBounds_toArray, List.set_cons_zero, List.set_cons_succ]
          refine wpAnyH_ready (rs := [8]) (by kernel_rfl) (by simp) ?_
          refine cons_list rfl (fun K hK => ?_) AllReadyH.nil
          go_simp
          (go_at_call 24; refine (CB.out _ hBd).mono ?_; rintro e w8 ⟨rfl, hB8⟩)
          refine hK.out _ _ (HC2.out _ (by assumption)) (fun hHeld1 => ?_)
          clear hK K hHeld0
          try simp only [Act.put, List.setIfInBounds_toArray, List.set_cons_zero, List.set_cons_succ]
          refine wpAnyH_done (by kernel_rfl) ?_ _
          clear hHeld1
          have B8 := Lib.hid hB8
          clear hB8 hBd hB
          go_wp2
          go_roundw
          case rel => exact ⟨k + 1, by omega, by go_num, B8.out⟩
          case measure => simp [intOf]; omega
        · clear hB
          go_wp2
          go_ret
          exact ⟨rfl, since_trans P7.out.pb.below BX.out⟩
end Go.Proofs.YtablbagdnmbbfaaGreat

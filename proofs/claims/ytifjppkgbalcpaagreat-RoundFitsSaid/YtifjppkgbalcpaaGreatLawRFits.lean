/- The walk of backstaylaw09.RoundFits. -/
import Derived.Test.YtifjppkgbalcpaaGreatLaw9
import Derived.Test.YtifjppkgbalcpaaGreatRef9
namespace Go.Proofs.YtifjppkgbalcpaaGreat
set_option linter.unusedSimpArgs false
set_option linter.unusedVariables false
open Go.RowKit

attribute [local go_sem ↓] Go.wp_at_zero Go.wp_at_succ
set_option maxRecDepth 100000 in
set_option maxHeartbeats 8000000 in
theorem roundFits_walk (a0 a1 : Option Addr) (c0 c1 : Nat) (l0 : List Int) (l1 : List (List Int)) (V1 : List (Option Addr × Nat)) (n2 : Int) (w : World) (h0 : InRow w a0 c0 l0) (h1 : RowsIn w a1 c1 l1 V1) (k2 : In64 n2) :
    Calls Tryz.prog 6 #[.slice a0 l0.length c0, .slice a1 l1.length c1, .int .i64 n2] w fun e w' => e = .returned (.bool true) ∧ Below w.heap.size w w' := by
  have I2 := Lib.hid k2
  have H1 := Lib.hid h1
  clear k2 h1
  have H0 := Lib.hid h0
  clear h0
  go_enter Tryz.func6, Tryz.ntmps6
  go_wp2_with fail
  refine (awake9 _).mono ?_
  rintro e w1 ⟨rfl, hb1⟩
  have J0 := Lib.hid (H0.out.call hb1)
  have B1 := Lib.hid hb1
  clear hb1
  go_wp2_with fail
  refine (net_any _ _ l0 c0 J0.out.len J0.out.le J0.out.rd J0.out.in64).mono ?_
  rintro e w2 ⟨p, h, rfl, hok, hown, hb⟩
  have B2 := Lib.hid (since_trans B1.out hb)
  have OK := Lib.hid hok
  have GD := Lib.hid hok.good
  have NG := Lib.hid hok.good.netG
  have P0 : Hid (NW w (w2.alloc (.cells #[.int .i64 p.proto, .int .i64 p.cap, .int .i64 p.k, .slice h.an p.nodes.length h.cn, .slice h.al p.links.length h.cl, .slice h.ad p.dests.length h.cd, .slice h.ac p.checks.length h.cc] 29)) w2.heap.size p h []) := Lib.hid ⟨PB.begin B2.out hown.net, by intro z hz; cases hz⟩
  have hn2 := hok.n.1
  have hn7 := hok.n.2
  have hl9 := hok.l9
  have HD0 := Lib.hid (dest0 (p := p) (by have := hok.d12.1; omega))
  clear hb hown hok J0
  unfold netV netVal
  go_upto_region 3 with fail
  generalize (w2.alloc (.cells #[.int .i64 p.proto, .int .i64 p.cap, .int .i64 p.k, .slice h.an p.nodes.length h.cn, .slice h.al p.links.length h.cl, .slice h.ad p.dests.length h.cd, .slice h.ac p.checks.length h.cc] 29)) = w3 at *
  generalize w2.heap.size = bp at *
  clear B1 B2
  obtain ⟨g0, g1, g2, g3, g4, g5, g6⟩ := P0.out.pb.all
  have J1 := Lib.hid (H1.out.call P0.out.pb.below)
  have HPK := Lib.hid (fun (wy : World) => pick9_any n2 512 wy I2.out (by omega) (by omega))
  generalize pickV n2 512 = x at *
  have HF0 := Lib.hid (held_fits NG.out l1)
  have CH : Hid (∀ wy, NW w wy bp p h [] → RowsIn wy a1 c1 l1 V1 → Calls Tryz.prog 17 #[.agg #[.int .i64 p.proto, .int .i64 p.cap, .int .i64 p.k, .slice h.an p.nodes.length h.cn, .slice h.al p.links.length h.cl, .slice h.ad p.dests.length h.cd, .slice h.ac p.checks.length h.cc], .slice a1 l1.length c1] wy fun e w' => ∃ (V : List RtZ) (B : Option Addr) (d : Nat), e = .returned (.slice B V.length d) ∧ V.map (·.1) = stL p (heldS p l1) ∧ RtsR w' w'.heap.size V B ∧ NW w w' bp p h []) := Lib.hid (fun wy a hr =>
    (held9_any p h l1 V1 a1 c1 wy a.net GD.out hr).mono fun e w' ⟨V, B, d, h1, h2, h3⟩ => ⟨V, B, d, h1, h2, h3.rts, a.call h3.below⟩)
  generalize heldS p l1 = s0 at *
  have CS : Hid (∀ (Y : List RtZ) A' c' wy, Y.map (·.1) = stL p s0 → RtsR wy wy.heap.size Y A' → NW w wy bp p h [] → Calls Tryz.prog 18 #[.agg #[.int .i64 p.proto, .int .i64 p.cap, .int .i64 p.k, .slice h.an p.nodes.length h.cn, .slice h.al p.links.length h.cl, .slice h.ad p.dests.length h.cd, .slice h.ac p.checks.length h.cc], .int .i64 x, .int .i64 0, .slice A' Y.length c'] wy fun e w' => ∃ (V : List RtZ) (B : Option Addr) (d : Nat), e = .returned (.slice B V.length d) ∧ V.map (·.1) = stL p (stepF p x 0 s0) ∧ NR w w' bp p h V B) := Lib.hid (fun Y A' c' wy hY hr a =>
    (stepR_any p h x 0 s0 Y A' c' wy a.net GD.out HD0.out hr hY HF0.out).mono fun e w' ⟨V, B, d, h1, h2, h3⟩ => ⟨V, B, d, h1, h2, a.call h3.below, h3.rts⟩)
  have HC : Hid (∀ wy, NW w wy bp p h [] → wy.cell? ⟨bp, 0, none⟩ = some (.int .i64 p.proto) ∧ wy.cell? ⟨bp, 1, none⟩ = some (.int .i64 p.cap) ∧ wy.cell? ⟨bp, 2, none⟩ = some (.int .i64 p.k) ∧ wy.cell? ⟨bp, 3, none⟩ = some (.slice h.an p.nodes.length h.cn) ∧ wy.cell? ⟨bp, 4, none⟩ = some (.slice h.al p.links.length h.cl) ∧ wy.cell? ⟨bp, 5, none⟩ = some (.slice h.ad p.dests.length h.cd) ∧ wy.cell? ⟨bp, 6, none⟩ = some (.slice h.ac p.checks.length h.cc)) := Lib.hid (fun wy a => a.pb.all)
  have hNd := P0.out.drew
  have hJd := J1.out.call (below_drew (Below.refl w3.heap.size w3))
  clear g0 g1 g2 g3 g4 g5 g6
  refine wp_region_held_drew (S := (fun wy => wy.cell? ⟨bp, 0, none⟩ = some (.int .i64 p.proto) ∧ wy.cell? ⟨bp, 1, none⟩ = some (.int .i64 p.cap) ∧ wy.cell? ⟨bp, 2, none⟩ = some (.int .i64 p.k) ∧ wy.cell? ⟨bp, 3, none⟩ = some (.slice h.an p.nodes.length h.cn) ∧ wy.cell? ⟨bp, 4, none⟩ = some (.slice h.al p.links.length h.cl) ∧ wy.cell? ⟨bp, 5, none⟩ = some (.slice h.ad p.dests.length h.cd) ∧ wy.cell? ⟨bp, 6, none⟩ = some (.slice h.ac p.checks.length h.cc))) (by kernel_rfl) (HC.out _ hNd) (fun hHeld0 => ?_)
  refine take_list (i := 0) (v := ?_) rfl (by kernel_rfl) (by kernel_rfl) (by kernel_rfl) (fun _ _ _ h => h) (Or.inl ⟨by rfl, ?_⟩) (by assumption) ?_
  rotate_left
  · (intro w hSw; (try dsimp only at hSw); go_simp; try (with_reducible rfl))
  try simp only [Act.put, List.setIfInBounds_toArray, List.set_cons_zero, List.set_cons_succ]
  refine take_list (i := 1) (v := ?_) rfl (by kernel_rfl) (by kernel_rfl) (by kernel_rfl) (fun _ _ _ h => h) (Or.inl ⟨by rfl, ?_⟩) (by assumption) ?_
  rotate_left
  · (intro w hSw; (try dsimp only at hSw); go_simp; try (with_reducible rfl))
  try simp only [Act.put, List.setIfInBounds_toArray, List.set_cons_zero, List.set_cons_succ]
  refine take_list (i := 3) (v := ?_) rfl (by kernel_rfl) (by kernel_rfl) (by kernel_rfl) (fun _ _ _ h => h) (Or.inl ⟨by rfl, ?_⟩) (by assumption) ?_
  rotate_left
  · (intro w hSw; (try dsimp only at hSw); go_simp; try (with_reducible rfl))
  try simp only [Act.put, List.setIfInBounds_toArray, List.set_cons_zero, List.set_cons_succ]
  refine take_list (i := 4) (v := ?_) rfl (by kernel_rfl) (by kernel_rfl) (by kernel_rfl) (fun _ _ _ h => h) (Or.inl ⟨by rfl, ?_⟩) (by assumption) ?_
  rotate_left
  · (intro w hSw; (try dsimp only at hSw); go_simp; try (with_reducible rfl))
  try simp only [Act.put, List.setIfInBounds_toArray, List.set_cons_zero, List.set_cons_succ]
  refine wpAnyH_ready (rs := [2]) (by kernel_rfl) (by simp) ?_
  refine cons_list rfl (fun K hK => ?_) AllReadyH.nil
  go_simp
  (go_at_call 11; refine (HPK.out _).mono ?_; rintro e w4 ⟨rfl, rfl⟩)
  refine hK.out _ _ (HC.out _ (by first | assumption | exact (by assumption : NR _ _ _ _ _ _ _).nw)) (fun hHeld1 => ?_)
  clear hK K hHeld0
  try simp only [Act.put, List.setIfInBounds_toArray, List.set_cons_zero, List.set_cons_succ]
  refine wpAnyH_ready (rs := [5]) (by kernel_rfl) (by simp) ?_
  refine cons_list rfl (fun K hK => ?_) AllReadyH.nil
  go_simp
  (go_at_call 17; refine (CH.out _ hNd hJd).mono ?_; rintro e w6 ⟨Y, A6, c6', rfl, hY, hYr, hN6⟩)
  refine hK.out _ _ (HC.out _ (by first | assumption | exact (by assumption : NR _ _ _ _ _ _ _).nw)) (fun hHeld2 => ?_)
  clear hK K hHeld1
  try simp only [Act.put, List.setIfInBounds_toArray, List.set_cons_zero, List.set_cons_succ]
  refine wpAnyH_ready (rs := [6]) (by kernel_rfl) (by simp) ?_
  refine cons_list rfl (fun K hK => ?_) AllReadyH.nil
  go_simp
  (go_at_call 18; refine (CS.out Y A6 c6' _ hY hYr hN6).mono ?_; rintro e w7 ⟨Z, A, c, rfl, hZ, hN7⟩; have hN7' := hN7.nw)
  refine hK.out _ _ (HC.out _ (by first | assumption | exact (by assumption : NR _ _ _ _ _ _ _).nw)) (fun hHeld3 => ?_)
  clear hK K hHeld2
  try simp only [Act.put, List.setIfInBounds_toArray, List.set_cons_zero, List.set_cons_succ]
  refine take_list (i := 7) (v := ?_) rfl (by kernel_rfl) (by kernel_rfl) (by kernel_rfl) (fun _ _ _ h => h) (Or.inl ⟨by rfl, ?_⟩) (by assumption) ?_
  rotate_left
  · (intro w hSw; (try dsimp only at hSw); go_simp; try (with_reducible rfl))
  try simp only [Act.put, List.setIfInBounds_toArray, List.set_cons_zero, List.set_cons_succ]
  refine wpAnyH_done (by kernel_rfl) ?_ _
  clear hHeld3
  have N7 := Lib.hid hN7
  have HZ := Lib.hid hZ
  have HZl := Lib.hid (len_of hZ)
  have hq1 : ((Z.length : Int) != (p.nodes.length : Int)) = false := by have h2 := HZl.out; simp; omega
  have hZ12 : Z.length ≤ 12 := by have h2 := HZl.out; omega
  have HFS : Hid (FitsF p (stepF p x 0 s0)) := Lib.hid (step_fits NG.out)
  have HMN : Hid (∀ i : Nat, betterB (ownR p 0 i) (stepF p x 0 s0 i) = false) := Lib.hid (fun i => step_min NG.out _ (mem_cand.2 (.inl rfl)))
  have HOW : Hid (∀ i : Nat, (ownR p 0 i).kind ≠ 0 → stepF p x 0 s0 i = ownR p 0 i) := Lib.hid (fun i hk => step_own NG.out hk s0)
  generalize stepF p x 0 s0 = s1 at *
  clear hNd hJd hY hYr hN6 hN7 hN7' hZ
  obtain ⟨g0, g1, g2, g3, g4, g5, g6⟩ := N7.out.nw.pb.all
  go_wp2_with fail
  refine (fitsR_any p h s1 Z A c _ N7.out.nw.net GD.out N7.out.rts HZ.out HFS.out).mono ?_
  rintro e w8 ⟨rfl, hb8⟩
  have N8 := Lib.hid (N7.out.call hb8)
  clear hb8 g0 g1 g2 g3 g4 g5 g6
  go_wp2_with fail
  go_loopw [10] (fun si wx => ∃ k : Nat, k ≤ Z.length ∧ si = .int .i64 k ∧ Below w8.heap.size w8 wx) (fun si _ => Z.length - (intOf si).toNat)
  case atStart => exact ⟨0, Nat.zero_le _, rfl, Below.refl _ _⟩
  case round =>
    obtain ⟨k, hk, rfl, hB⟩ := hrel
    have BX := Lib.hid hB
    have N9 := Lib.hid (N8.out.call hB)
    by_cases hlt : k < Z.length
    · obtain ⟨z, hz⟩ : ∃ z, Z[k]? = some z := ⟨_, List.getElem?_eq_getElem hlt⟩
      have ez : z.1 = s1 k := by
        have e : (Z.map (·.1))[k]? = some z.1 := by rw [List.getElem?_map, hz]; rfl
        rw [HZ.out, stL_at (by have h2 := HZl.out; omega)] at e
        injection e with e
        exact e.symm
      have EZ := Lib.hid ez
      obtain ⟨g0, g1, g2, g3, g4, g5, g6⟩ := N9.out.nw.pb.all
      clear ez
      go_wp2_with fail
      refine (rown_any p h 0 k _ N9.out.nw.net GD.out.small).mono ?_
      rintro e w10 ⟨rfl, hb10⟩
      rw [rown_good GD.out.right]
      have b1 := HMN.out k
      have b2 := HOW.out k
      have HON := Lib.hid (ownR_nil p 0 k)
      rw [← EZ.out] at b1 b2
      generalize ownR p 0 k = ow at *
      have BO := Lib.hid b2
      have N10 := Lib.hid (N9.out.call hb10)
      have hbo : Below w10.heap.size w10 (w10.alloc (.cells #[.int .i64 ow.kind, .int .i64 ow.cost, .slice none ow.path.length 0] 36)) := (Below.refl _ _).alloc (Nat.le_refl _) _
      have BOX : Hid ((w10.alloc (.cells #[.int .i64 ow.kind, .int .i64 ow.cost, .slice none ow.path.length 0] 36)).heap[w10.heap.size]? = some (.cells #[.int .i64 ow.kind, .int .i64 ow.cost, .slice none ow.path.length 0] 36 (0, 0))) := Lib.hid (heap_alloc_new _ _)
      have N11 := Lib.hid (N10.out.call hbo)
      have B11 := Lib.hid (since_trans (since_trans BX.out hb10) hbo)
      clear hb10 g0 g1 g2 g3 g4 g5 g6 hbo b2
      unfold rtV
      go_upto_region 10 with fail
      generalize (w10.alloc (.cells #[.int .i64 ow.kind, .int .i64 ow.cost, .slice none ow.path.length 0] 36)) = w11 at *
      generalize w10.heap.size = bo at *
      obtain ⟨b, o, rfl, hb, z0, z1, z2⟩ := N11.out.rts.at_ hz
      have HRZ := Lib.hid (N11.out.rts.each z (List.mem_of_getElem? hz))
      have HC2 : Hid (∀ wy, Below w11.heap.size w11 wy → (wy.cell? ⟨b, o + k * 3, none⟩ = some (.int .i64 z.1.kind) ∧ wy.cell? ⟨b, o + k * 3 + 1, none⟩ = some (.int .i64 z.1.cost) ∧ wy.cell? ⟨b, o + k * 3 + 2, none⟩ = some (.slice z.2.1 z.1.path.length z.2.2)) ∧ wy.cell? ⟨bo, 0, none⟩ = some (.int .i64 ow.kind) ∧ wy.cell? ⟨bo, 1, none⟩ = some (.int .i64 ow.cost) ∧ wy.cell? ⟨bo, 2, none⟩ = some (.slice none ow.path.length 0)) := Lib.hid (fun wy hb2 => by
        have hx := (hb2.block bo (lt_heap BOX.out)).trans BOX.out
        exact ⟨⟨(hb2.cell (p := ⟨b, _, none⟩) hb).trans z0, (hb2.cell (p := ⟨b, _, none⟩) hb).trans z1, (hb2.cell (p := ⟨b, _, none⟩) hb).trans z2⟩, cell_of_row _ _ 0 _ _ _ hx, cell_of_row _ _ 1 _ _ _ hx, cell_of_row _ _ 2 _ _ _ hx⟩)
      have HRO : Hid (∀ wy : World, RtR wy wy.heap.size ow none 0) := Lib.hid (fun wy => ⟨by rw [HON.out]; exact Rd.nil _, by rw [HON.out]; simp, by unfold maxLen; omega⟩)
      have CB : Hid (∀ wy, Below w11.heap.size w11 wy → Calls Tryz.prog 25 #[.agg #[.int .i64 ow.kind, .int .i64 ow.cost, .slice none ow.path.length 0], .agg #[.int .i64 z.1.kind, .int .i64 z.1.cost, .slice z.2.1 z.1.path.length z.2.2]] wy fun e w' => e = .returned (.bool false) ∧ Below w11.heap.size w11 w') := Lib.hid (fun wy hb2 =>
        (better_rt ow z.1 none z.2.1 0 z.2.2 wy (HRO.out wy) ((HRZ.out.below hb2 (Nat.le_refl _)).more hb2.size)).mono fun e w' ⟨h1, h2⟩ => ⟨by rw [h1, b1], since_trans hb2 h2⟩)
      have hk0 : (0 : Int) ≤ (k : Int) := by omega
      have hBd : Below w11.heap.size w11 w11.drew := below_drew (Below.refl _ _)
      clear hz z0 z1 z2 hb b1
      by_cases ho : ow.kind = 0
      · have hok : (ow.kind != 0) = false := by simp [ho]
        clear ho
        refine wp_region_held_drew (S := (fun wy => (wy.cell? ⟨b, o + k * 3, none⟩ = some (.int .i64 z.1.kind) ∧ wy.cell? ⟨b, o + k * 3 + 1, none⟩ = some (.int .i64 z.1.cost) ∧ wy.cell? ⟨b, o + k * 3 + 2, none⟩ = some (.slice z.2.1 z.1.path.length z.2.2)) ∧ wy.cell? ⟨bo, 0, none⟩ = some (.int .i64 ow.kind) ∧ wy.cell? ⟨bo, 1, none⟩ = some (.int .i64 ow.cost) ∧ wy.cell? ⟨bo, 2, none⟩ = some (.slice none ow.path.length 0))) (by kernel_rfl) (HC2.out _ hBd) (fun hHeld0 => ?_)
        refine take_list (i := 0) (v := ?_) rfl (by kernel_rfl) (by kernel_rfl) (by kernel_rfl) (fun _ _ _ h => h) (Or.inl ⟨by rfl, ?_⟩) (by assumption) ?_
        rotate_left
        · (intro w hSw; (try dsimp only at hSw); go_simp; try (with_reducible rfl))
        try simp only [Act.put, List.setIfInBounds_toArray, List.set_cons_zero, List.set_cons_succ]
        refine take_list (i := 1) (v := ?_) rfl (by kernel_rfl) (by kernel_rfl) (by kernel_rfl) (fun _ _ _ h => h) (Or.inl ⟨by rfl, ?_⟩) (by assumption) ?_
        rotate_left
        · (intro w hSw; (try dsimp only at hSw); go_simp; try (with_reducible rfl))
        try simp only [Act.put, List.setIfInBounds_toArray, List.set_cons_zero, List.set_cons_succ]
        refine take_list (i := 2) (v := ?_) rfl (by kernel_rfl) (by kernel_rfl) (by kernel_rfl) (fun _ _ _ h => h) (Or.inl ⟨by rfl, ?_⟩) (by assumption) ?_
        rotate_left
        · (intro w hSw; (try dsimp only at hSw); go_simp; try (with_reducible rfl))
        try simp only [Act.put, List.setIfInBounds_toArray, List.set_cons_zero, List.set_cons_succ]
        refine take_list (i := 3) (v := ?_) rfl (by kernel_rfl) (by kernel_rfl) (by kernel_rfl) (fun _ _ _ h => h) (Or.inl ⟨by rfl, ?_⟩) (by assumption) ?_
        rotate_left
        · (intro w hSw; (try dsimp only at hSw); go_simp; try (with_reducible rfl))
        try simp only [Act.put, List.setIfInBounds_toArray, List.set_cons_zero, List.set_cons_succ]
        refine take_list (i := 4) (v := ?_) rfl (by kernel_rfl) (by kernel_rfl) (by kernel_rfl) (fun _ _ _ h => h) (Or.inl ⟨by rfl, ?_⟩) (by assumption) ?_
        rotate_left
        · (intro w hSw; (try dsimp only at hSw); go_simp; try (with_reducible rfl))
        try simp only [Act.put, List.setIfInBounds_toArray, List.set_cons_zero, List.set_cons_succ]
        refine wpAnyH_ready (rs := [5]) (by kernel_rfl) (by simp) ?_
        refine cons_list rfl (fun K hK => ?_) AllReadyH.nil
        go_simp
        (go_at_call 25; refine (CB.out _ hBd).mono ?_; rintro e w12 ⟨rfl, hB12⟩)
        refine hK.out _ _ (HC2.out _ (by assumption)) (fun hHeld1 => ?_)
        clear hK K hHeld0
        try simp only [Act.put, List.setIfInBounds_toArray, List.set_cons_zero, List.set_cons_succ]
        refine take_list (i := 6) (v := ?_) rfl (by kernel_rfl) (by kernel_rfl) (by kernel_rfl) (fun _ _ _ h => h) (Or.inl ⟨by rfl, ?_⟩) (by assumption) ?_
        rotate_left
        · (intro w hSw; (try dsimp only at hSw); go_simp; try (with_reducible rfl))
        try simp only [Act.put, List.setIfInBounds_toArray, List.set_cons_zero, List.set_cons_succ]
        refine take_list (i := 7) (v := ?_) rfl (by kernel_rfl) (by kernel_rfl) (by kernel_rfl) (fun _ _ _ h => h) (Or.inl ⟨by rfl, ?_⟩) (by assumption) ?_
        rotate_left
        · (intro w hSw; (try dsimp only at hSw); go_simp; try (with_reducible rfl))
        try simp only [Act.put, List.setIfInBounds_toArray, List.set_cons_zero, List.set_cons_succ]
        refine take_list (i := 8) (v := ?_) rfl (by kernel_rfl) (by kernel_rfl) (by kernel_rfl) (fun _ _ _ h => h) (Or.inl ⟨by rfl, ?_⟩) (by assumption) ?_
        rotate_left
        · (intro w hSw; (try dsimp only at hSw); go_simp; try (with_reducible rfl))
        try simp only [Act.put, List.setIfInBounds_toArray, List.set_cons_zero, List.set_cons_succ]
        refine take_list (i := 9) (v := ?_) rfl (by kernel_rfl) (by kernel_rfl) (by kernel_rfl) (fun _ _ _ h => h) (Or.inl ⟨by rfl, ?_⟩) (by assumption) ?_
        rotate_left
        · (intro w hSw; (try dsimp only at hSw); go_simp; try (with_reducible rfl))
        try simp only [Act.put, List.setIfInBounds_toArray, List.set_cons_zero, List.set_cons_succ]
        refine take_list (i := 10) (v := ?_) rfl (by kernel_rfl) (by kernel_rfl) (by kernel_rfl) (fun _ _ _ h => h) (Or.inl ⟨by rfl, ?_⟩) (by assumption) ?_
        rotate_left
        · (intro w hSw; (try dsimp only at hSw); go_simp; try (with_reducible rfl))
        try simp only [Act.put, List.setIfInBounds_toArray, List.set_cons_zero, List.set_cons_succ]
        refine take_list (i := 11) (v := undef) rfl (by kernel_rfl) (by kernel_rfl) (by kernel_rfl) (fun _ _ _ h => h) (Or.inr ⟨by rfl, rfl⟩) (by assumption) ?_
        try simp only [Act.put, List.setIfInBounds_toArray, List.set_cons_zero, List.set_cons_succ]
        refine take_list (i := 12) (v := undef) rfl (by kernel_rfl) (by kernel_rfl) (by kernel_rfl) (fun _ _ _ h => h) (Or.inr ⟨by rfl, rfl⟩) (by assumption) ?_
        try simp only [Act.put, List.setIfInBounds_toArray, List.set_cons_zero, List.set_cons_succ]
        refine take_list (i := 13) (v := undef) rfl (by kernel_rfl) (by kernel_rfl) (by kernel_rfl) (fun _ _ _ h => h) (Or.inr ⟨by rfl, rfl⟩) (by assumption) ?_
        try simp only [Act.put, List.setIfInBounds_toArray, List.set_cons_zero, List.set_cons_succ]
        refine take_list (i := 14) (v := undef) rfl (by kernel_rfl) (by kernel_rfl) (by kernel_rfl) (fun _ _ _ h => h) (Or.inr ⟨by rfl, rfl⟩) (by assumption) ?_
        try simp only [Act.put, List.setIfInBounds_toArray, List.set_cons_zero, List.set_cons_succ]
        refine take_list (i := 15) (v := undef) rfl (by kernel_rfl) (by kernel_rfl) (by kernel_rfl) (fun _ _ _ h => h) (Or.inr ⟨by rfl, rfl⟩) (by assumption) ?_
        try simp only [Act.put, List.setIfInBounds_toArray, List.set_cons_zero, List.set_cons_succ]
        refine take_list (i := 16) (v := undef) rfl (by kernel_rfl) (by kernel_rfl) (by kernel_rfl) (fun _ _ _ h => h) (Or.inr ⟨by rfl, rfl⟩) (by assumption) ?_
        try simp only [Act.put, List.setIfInBounds_toArray, List.set_cons_zero, List.set_cons_succ]
        refine take_list (i := 17) (v := undef) rfl (by kernel_rfl) (by kernel_rfl) (by kernel_rfl) (fun _ _ _ h => h) (Or.inr ⟨by rfl, rfl⟩) (by assumption) ?_
        try simp only [Act.put, List.setIfInBounds_toArray, List.set_cons_zero, List.set_cons_succ]
        refine take_list (i := 18) (v := ?_) rfl (by kernel_rfl) (by kernel_rfl) (by kernel_rfl) (fun _ _ _ h => h) (Or.inl ⟨by rfl, ?_⟩) (by assumption) ?_
        rotate_left
        · (intro w hSw; (try dsimp only at hSw); go_simp; try (with_reducible rfl))
        try simp only [Act.put, List.setIfInBounds_toArray, List.set_cons_zero, List.set_cons_succ]
        refine take_list (i := 19) (v := ?_) rfl (by kernel_rfl) (by kernel_rfl) (by kernel_rfl) (fun _ _ _ h => h) (Or.inl ⟨by rfl, ?_⟩) (by assumption) ?_
        rotate_left
        · (intro w hSw; (try dsimp only at hSw); go_simp; try (with_reducible rfl))
        try simp only [Act.put, List.setIfInBounds_toArray, List.set_cons_zero, List.set_cons_succ]
        refine wpAnyH_done (by kernel_rfl) ?_ _
        clear hHeld1
        have B13 := Lib.hid (since_trans B11.out hB12)
        clear hBd hB hB12
        go_wp2
        go_roundw
        case rel => exact ⟨k + 1, by omega, by go_num, B13.out⟩
        case measure => simp [intOf]; omega
      · have hok : (ow.kind != 0) = true := by simp [ho]
        have heq := BO.out ho
        have CS : Hid (∀ wy, Below w11.heap.size w11 wy → Calls Tryz.prog 13 #[.agg #[.int .i64 ow.kind, .int .i64 ow.cost, .slice none ow.path.length 0], .agg #[.int .i64 z.1.kind, .int .i64 z.1.cost, .slice z.2.1 z.1.path.length z.2.2]] wy fun e w' => e = .returned (.bool true) ∧ Below w11.heap.size w11 w') := Lib.hid (fun wy hb2 =>
          (refSame_any ow z.1 none z.2.1 0 z.2.2 wy (HRO.out wy) ((HRZ.out.below hb2 (Nat.le_refl _)).more hb2.size)).mono fun e w' ⟨h1, h2⟩ => ⟨by rw [h1, heq]; simp, since_trans hb2 h2⟩)
        clear ho heq
        refine wp_region_held_drew (S := (fun wy => (wy.cell? ⟨b, o + k * 3, none⟩ = some (.int .i64 z.1.kind) ∧ wy.cell? ⟨b, o + k * 3 + 1, none⟩ = some (.int .i64 z.1.cost) ∧ wy.cell? ⟨b, o + k * 3 + 2, none⟩ = some (.slice z.2.1 z.1.path.length z.2.2)) ∧ wy.cell? ⟨bo, 0, none⟩ = some (.int .i64 ow.kind) ∧ wy.cell? ⟨bo, 1, none⟩ = some (.int .i64 ow.cost) ∧ wy.cell? ⟨bo, 2, none⟩ = some (.slice none ow.path.length 0))) (by kernel_rfl) (HC2.out _ hBd) (fun hHeld0 => ?_)
        refine take_list (i := 0) (v := ?_) rfl (by kernel_rfl) (by kernel_rfl) (by kernel_rfl) (fun _ _ _ h => h) (Or.inl ⟨by rfl, ?_⟩) (by assumption) ?_
        rotate_left
        · (intro w hSw; (try dsimp only at hSw); go_simp; try (with_reducible rfl))
        try simp only [Act.put, List.setIfInBounds_toArray, List.set_cons_zero, List.set_cons_succ]
        refine take_list (i := 1) (v := ?_) rfl (by kernel_rfl) (by kernel_rfl) (by kernel_rfl) (fun _ _ _ h => h) (Or.inl ⟨by rfl, ?_⟩) (by assumption) ?_
        rotate_left
        · (intro w hSw; (try dsimp only at hSw); go_simp; try (with_reducible rfl))
        try simp only [Act.put, List.setIfInBounds_toArray, List.set_cons_zero, List.set_cons_succ]
        refine take_list (i := 2) (v := ?_) rfl (by kernel_rfl) (by kernel_rfl) (by kernel_rfl) (fun _ _ _ h => h) (Or.inl ⟨by rfl, ?_⟩) (by assumption) ?_
        rotate_left
        · (intro w hSw; (try dsimp only at hSw); go_simp; try (with_reducible rfl))
        try simp only [Act.put, List.setIfInBounds_toArray, List.set_cons_zero, List.set_cons_succ]
        refine take_list (i := 3) (v := ?_) rfl (by kernel_rfl) (by kernel_rfl) (by kernel_rfl) (fun _ _ _ h => h) (Or.inl ⟨by rfl, ?_⟩) (by assumption) ?_
        rotate_left
        · (intro w hSw; (try dsimp only at hSw); go_simp; try (with_reducible rfl))
        try simp only [Act.put, List.setIfInBounds_toArray, List.set_cons_zero, List.set_cons_succ]
        refine take_list (i := 4) (v := ?_) rfl (by kernel_rfl) (by kernel_rfl) (by kernel_rfl) (fun _ _ _ h => h) (Or.inl ⟨by rfl, ?_⟩) (by assumption) ?_
        rotate_left
        · (intro w hSw; (try dsimp only at hSw); go_simp; try (with_reducible rfl))
        try simp only [Act.put, List.setIfInBounds_toArray, List.set_cons_zero, List.set_cons_succ]
        refine wpAnyH_ready (rs := [5]) (by kernel_rfl) (by simp) ?_
        refine cons_list rfl (fun K hK => ?_) AllReadyH.nil
        go_simp
        (go_at_call 25; refine (CB.out _ hBd).mono ?_; rintro e w12 ⟨rfl, hB12⟩)
        refine hK.out _ _ (HC2.out _ (by assumption)) (fun hHeld1 => ?_)
        clear hK K hHeld0
        try simp only [Act.put, List.setIfInBounds_toArray, List.set_cons_zero, List.set_cons_succ]
        refine take_list (i := 6) (v := ?_) rfl (by kernel_rfl) (by kernel_rfl) (by kernel_rfl) (fun _ _ _ h => h) (Or.inl ⟨by rfl, ?_⟩) (by assumption) ?_
        rotate_left
        · (intro w hSw; (try dsimp only at hSw); go_simp; try (with_reducible rfl))
        try simp only [Act.put, List.setIfInBounds_toArray, List.set_cons_zero, List.set_cons_succ]
        refine take_list (i := 7) (v := ?_) rfl (by kernel_rfl) (by kernel_rfl) (by kernel_rfl) (fun _ _ _ h => h) (Or.inl ⟨by rfl, ?_⟩) (by assumption) ?_
        rotate_left
        · (intro w hSw; (try dsimp only at hSw); go_simp; try (with_reducible rfl))
        try simp only [Act.put, List.setIfInBounds_toArray, List.set_cons_zero, List.set_cons_succ]
        refine take_list (i := 8) (v := ?_) rfl (by kernel_rfl) (by kernel_rfl) (by kernel_rfl) (fun _ _ _ h => h) (Or.inl ⟨by rfl, ?_⟩) (by assumption) ?_
        rotate_left
        · (intro w hSw; (try dsimp only at hSw); go_simp; try (with_reducible rfl))
        try simp only [Act.put, List.setIfInBounds_toArray, List.set_cons_zero, List.set_cons_succ]
        refine take_list (i := 9) (v := ?_) rfl (by kernel_rfl) (by kernel_rfl) (by kernel_rfl) (fun _ _ _ h => h) (Or.inl ⟨by rfl, ?_⟩) (by assumption) ?_
        rotate_left
        · (intro w hSw; (try dsimp only at hSw); go_simp; try (with_reducible rfl))
        try simp only [Act.put, List.setIfInBounds_toArray, List.set_cons_zero, List.set_cons_succ]
        refine take_list (i := 10) (v := ?_) rfl (by kernel_rfl) (by kernel_rfl) (by kernel_rfl) (fun _ _ _ h => h) (Or.inl ⟨by rfl, ?_⟩) (by assumption) ?_
        rotate_left
        · (intro w hSw; (try dsimp only at hSw); go_simp; try (with_reducible rfl))
        try simp only [Act.put, List.setIfInBounds_toArray, List.set_cons_zero, List.set_cons_succ]
        refine take_list (i := 11) (v := ?_) rfl (by kernel_rfl) (by kernel_rfl) (by kernel_rfl) (fun _ _ _ h => h) (Or.inl ⟨by rfl, ?_⟩) (by assumption) ?_
        rotate_left
        · (intro w hSw; (try dsimp only at hSw); go_simp; try (with_reducible rfl))
        try simp only [Act.put, List.setIfInBounds_toArray, List.set_cons_zero, List.set_cons_succ]
        refine take_list (i := 12) (v := ?_) rfl (by kernel_rfl) (by kernel_rfl) (by kernel_rfl) (fun _ _ _ h => h) (Or.inl ⟨by rfl, ?_⟩) (by assumption) ?_
        rotate_left
        · (intro w hSw; (try dsimp only at hSw); go_simp; try (with_reducible rfl))
        try simp only [Act.put, List.setIfInBounds_toArray, List.set_cons_zero, List.set_cons_succ]
        refine take_list (i := 13) (v := ?_) rfl (by kernel_rfl) (by kernel_rfl) (by kernel_rfl) (fun _ _ _ h => h) (Or.inl ⟨by rfl, ?_⟩) (by assumption) ?_
        rotate_left
        · (intro w hSw; (try dsimp only at hSw); go_simp; try (with_reducible rfl))
        try simp only [Act.put, List.setIfInBounds_toArray, List.set_cons_zero, List.set_cons_succ]
        refine take_list (i := 14) (v := ?_) rfl (by kernel_rfl) (by kernel_rfl) (by kernel_rfl) (fun _ _ _ h => h) (Or.inl ⟨by rfl, ?_⟩) (by assumption) ?_
        rotate_left
        · (intro w hSw; (try dsimp only at hSw); go_simp; try (with_reducible rfl))
        try simp only [Act.put, List.setIfInBounds_toArray, List.set_cons_zero, List.set_cons_succ]
        refine take_list (i := 15) (v := ?_) rfl (by kernel_rfl) (by kernel_rfl) (by kernel_rfl) (fun _ _ _ h => h) (Or.inl ⟨by rfl, ?_⟩) (by assumption) ?_
        rotate_left
        · (intro w hSw; (try dsimp only at hSw); go_simp; try (with_reducible rfl))
        try simp only [Act.put, List.setIfInBounds_toArray, List.set_cons_zero, List.set_cons_succ]
        refine wpAnyH_ready (rs := [16]) (by kernel_rfl) (by simp) ?_
        refine cons_list rfl (fun K hK => ?_) AllReadyH.nil
        go_simp
        (go_at_call 13; refine (CS.out _ hB12).mono ?_; rintro e w13 ⟨rfl, hB13⟩)
        refine hK.out _ _ (HC2.out _ (by assumption)) (fun hHeld2 => ?_)
        clear hK K hHeld1
        try simp only [Act.put, List.setIfInBounds_toArray, List.set_cons_zero, List.set_cons_succ]
        refine take_list (i := 17) (v := ?_) rfl (by kernel_rfl) (by kernel_rfl) (by kernel_rfl) (fun _ _ _ h => h) (Or.inl ⟨by rfl, ?_⟩) (by assumption) ?_
        rotate_left
        · (intro w hSw; (try dsimp only at hSw); go_simp; try (with_reducible rfl))
        try simp only [Act.put, List.setIfInBounds_toArray, List.set_cons_zero, List.set_cons_succ]
        refine take_list (i := 18) (v := ?_) rfl (by kernel_rfl) (by kernel_rfl) (by kernel_rfl) (fun _ _ _ h => h) (Or.inl ⟨by rfl, ?_⟩) (by assumption) ?_
        rotate_left
        · (intro w hSw; (try dsimp only at hSw); go_simp; try (with_reducible rfl))
        try simp only [Act.put, List.setIfInBounds_toArray, List.set_cons_zero, List.set_cons_succ]
        refine take_list (i := 19) (v := ?_) rfl (by kernel_rfl) (by kernel_rfl) (by kernel_rfl) (fun _ _ _ h => h) (Or.inl ⟨by rfl, ?_⟩) (by assumption) ?_
        rotate_left
        · (intro w hSw; (try dsimp only at hSw); go_simp; try (with_reducible rfl))
        try simp only [Act.put, List.setIfInBounds_toArray, List.set_cons_zero, List.set_cons_succ]
        refine wpAnyH_done (by kernel_rfl) ?_ _
        clear hHeld2
        have B13 := Lib.hid (since_trans B11.out hB13)
        clear hBd hB hB12 hB13
        go_wp2
        go_roundw
        case rel => exact ⟨k + 1, by omega, by go_num, B13.out⟩
        case measure => simp [intOf]; omega
    · clear hB
      go_wp2
      go_ret
      exact ⟨rfl, since_trans N8.out.nw.pb.below BX.out⟩
end Go.Proofs.YtifjppkgbalcpaaGreat

/- The walk of backstaylaw05.GraphForest. -/
import Derived.Test.YtconeplgbemblaaForestP
namespace Go.Proofs.Ytconeplgbemblaa
set_option linter.unusedSimpArgs false
set_option linter.unusedVariables false
open Go.RowKit

attribute [local go_sem ↓] Go.wp_at_zero Go.wp_at_succ
set_option maxRecDepth 100000 in
set_option maxHeartbeats 8000000 in
theorem graphForest_walk (a0 : Option Addr) (c0 : Nat) (l0 : List Int) (n1 : Int) (w : World) (h0 : InRow w a0 c0 l0) (k1 : In64 n1) :
    Calls Try.prog 8 #[.slice a0 l0.length c0, .int .i64 n1] w fun e w' => e = .returned (.bool true) ∧ Below w.heap.size w w' := by
  have I1 := Lib.hid k1
  clear k1
  have H0 := Lib.hid h0
  clear h0
  go_enter Try.func8, Try.ntmps8
  go_wp2_with fail
  refine (awake5 _).mono ?_
  rintro e w1 ⟨rfl, hb1⟩
  have J0 := Lib.hid (H0.out.call hb1)
  have B1 := Lib.hid hb1
  clear hb1
  go_wp2_with fail
  refine (net_any _ _ l0 c0 J0.out.len J0.out.le J0.out.rd J0.out.in64).mono ?_
  rintro e w2 ⟨p, h, rfl, hok, hown, hb⟩
  have B2 := Lib.hid (since_trans B1.out hb)
  have OK := Lib.hid hok
  have GD := Lib.hid hok.good
  have P0 : Hid (PB w (w2.alloc (.cells #[.int .i64 p.proto, .int .i64 p.cap, .int .i64 p.k, .slice h.an p.nodes.length h.cn, .slice h.al p.links.length h.cl, .slice h.ad p.dests.length h.cd, .slice h.ac p.checks.length h.cc] 29)) w2.heap.size p h) := Lib.hid (PB.begin B2.out hown.net)
  have hn2 := hok.n.1
  have hn7 := hok.n.2
  clear hb hown hok
  unfold netV netVal
  obtain ⟨g0, g1, g2, g3, g4, g5, g6⟩ := P0.out.all
  go_wp2_with fail
  refine (pick5_any n1 512 _ I1.out (by omega) (by omega)).mono ?_
  rintro e w' ⟨rfl, rfl⟩
  generalize pickV n1 512 = x
  have h16 := GD.out.l16
  have HFL := Lib.hid (forest_law (f := x) GD.out.lksOk h16)
  have HEN := Lib.hid (ends_two (f := x) GD.out.lksOk p.links.length (Nat.le_refl _))
  have hE : ∀ k, sumN (fun v => (arL p.links x (v : Int) p.links.length).length) k ≤ 16 * k := sumN_le (fun v => Nat.le_trans (arL_le _ _ _ _) h16)
  have HE := Lib.hid hE
  have HPL := Lib.hid (partsK_le p.links x)
  clear hE
  go_wp2_with fail
  go_loopw [8, 9, 10] (fun sp se sn wx => ∃ k : Nat, k ≤ p.nodes.length ∧ sn = .int .i64 k ∧ sp = .int .i64 (partsK p.links x k : Nat) ∧ se = .int .i64 (sumN (fun v => (arL p.links x (v : Int) p.links.length).length) k : Nat) ∧ PB w wx w2.heap.size p h) (fun _ _ sn _ => p.nodes.length - (intOf sn).toNat)
  case atStart => exact ⟨0, Nat.zero_le _, rfl, rfl, rfl, P0.out⟩
  case round =>
    clear P0 g0 g1 g2 g3 g4 g5 g6
    obtain ⟨k, hk, rfl, rfl, rfl, hP⟩ := hrel
    have PX := Lib.hid hP
    have b1 := HE.out k
    have b2 := HPL.out k
    obtain ⟨g0, g1, g2, g3, g4, g5, g6⟩ := hP.all
    clear hP
    by_cases hlt : k < p.nodes.length
    · have HS := Lib.hid (show sumN (fun v => (arL p.links x (v : Int) p.links.length).length) (k + 1) = sumN (fun v => (arL p.links x (v : Int) p.links.length).length) k + (arL p.links x (k : Int) p.links.length).length from rfl)
      have HEk := Lib.hid (rfl : sumN (fun v => (arL p.links x (v : Int) p.links.length).length) k = sumN (fun v => (arL p.links x (v : Int) p.links.length).length) k)
      have b3 : (arL p.links x (k : Int) p.links.length).length ≤ 16 := Nat.le_trans (arL_le _ _ _ _) h16
      have HKI : Hid (0 ≤ (k : Int) ∧ (k : Int) < p.nodes.length) := Lib.hid (by omega)
      go_wp2_with fail
      refine (reach_len PX.out.net GD.out HKI.out).mono ?_
      rintro e w3 ⟨A, c, rfl, hown, hb1⟩
      have P1 := Lib.hid (PX.out.call hb1)
      have R1 := Lib.hid hown.rd
      simp only [Int.toNat_natCast] at R1 ⊢
      have hlen := (reachL_is (f := x) hlt GD.out.lksOk).len
      obtain ⟨hd, hhd⟩ : ∃ v, (reachL p.links x p.nodes.length k)[0]? = some v := ⟨_, List.getElem?_eq_getElem hlen⟩
      have HF := Lib.hid (reach_first hlt GD.out.lksOk hhd)
      obtain ⟨b', o, rfl, hbb, hcc⟩ := R1.out.one (nats_at hhd)
      clear hb1 hown hhd g0 g1 g2 g3 g4 g5 g6
      simp only [Nat.add_zero] at hcc
      generalize (reachL p.links x p.nodes.length k).length = rl at *
      have hlz : (0 : Int) < (rl : Int) := by omega
      obtain ⟨g0, g1, g2, g3, g4, g5, g6⟩ := P1.out.all
      generalize hEg : sumN (fun v => (arL p.links x (v : Int) p.links.length).length) k = E at *
      clear hEg
      generalize hAg : (arL p.links x (k : Int) p.links.length).length = aw at *
      have HAG := Lib.hid hAg
      clear hAg
      by_cases hfirst : Gr.First (Adj p.links x) k
      · have hq : ((hd : Int) == (k : Int)) = true := by rw [beq_iff_eq]; have := HF.out.2 hfirst; omega
        have HPK := Lib.hid (partsK_hit hfirst)
        clear hfirst
        go_wp2_with fail
        refine (around_in P1.out.net GD.out).mono ?_
        rintro e w4 ⟨A2, c2, rfl, -, hb1⟩
        have P2 := Lib.hid (P1.out.call hb1)
        rw [HAG.out]
        clear hb1 g0 g1 g2 g3 g4 g5 g6
        go_wp2_with fail
        go_roundw
        case rel => exact ⟨k + 1, by omega, by go_num, by rw [HPK.out]; go_num, by rw [HS.out]; go_num, P2.out⟩
        case measure => simp [intOf]; omega
      · have hq : ((hd : Int) == (k : Int)) = false := by
          rw [beq_eq_false_iff_ne]
          intro e
          exact hfirst (HF.out.1 (by omega))
        have HPK := Lib.hid (partsK_miss hfirst)
        clear hfirst
        go_wp2_with fail
        refine (around_in P1.out.net GD.out).mono ?_
        rintro e w4 ⟨A2, c2, rfl, -, hb1⟩
        have P2 := Lib.hid (P1.out.call hb1)
        rw [HAG.out]
        clear hb1 g0 g1 g2 g3 g4 g5 g6
        go_wp2_with fail
        go_roundw
        case rel => exact ⟨k + 1, by omega, by go_num, by rw [HPK.out], by rw [HS.out]; go_num, P2.out⟩
        case measure => simp [intOf]; omega
    · have hkN : k = p.nodes.length := by omega
      subst hkN
      have hge : ¬ (p.nodes.length : Int) < (p.nodes.length : Int) := by omega
      have e1 := HEN.out
      generalize sumN (fun v => (arL p.links x (v : Int) p.links.length).length) p.nodes.length = E at *
      generalize partsK p.links x p.nodes.length = PK at *
      have HEN2 := Lib.hid e1
      clear e1 hlt HE HPL HEN
      go_wp2_with fail
      go_loopw [12, 13] (fun sl si wx => ∃ j : Nat, j ≤ p.links.length ∧ si = .int .i64 j ∧ sl = .int .i64 ((upL x j).length : Nat) ∧ PB w wx w2.heap.size p h) (fun _ si _ => p.links.length - (intOf si).toNat)
      case atStart => exact ⟨0, Nat.zero_le _, rfl, rfl, PX.out⟩
      case round =>
        clear PX g0 g1 g2 g3 g4 g5 g6
        obtain ⟨j, hj, rfl, rfl, hP⟩ := hrel
        have PX := Lib.hid hP
        obtain ⟨g0, g1, g2, g3, g4, g5, g6⟩ := hP.all
        have b4 := upL_le x j
        clear hP
        by_cases hjt : j < p.links.length
        · go_wp2_with fail
          refine (has_any x j _).mono ?_
          rintro e w' ⟨rfl, rfl⟩
          cases hf : hasB x (j : Int) with
          | true =>
            have HU := Lib.hid (upL_miss hf)
            clear hf
            go_wp2_with fail
            go_roundw
            case rel => exact ⟨j + 1, by omega, by go_num, by rw [HU.out], PX.out⟩
            case measure => simp [intOf]; omega
          | false =>
            have HU := Lib.hid (upL_hit hf)
            clear hf
            go_wp2_with fail
            go_roundw
            case rel => exact ⟨j + 1, by omega, by go_num, by rw [HU.out, List.length_append, List.length_singleton]; go_num, PX.out⟩
            case measure => simp [intOf]; omega
        · have hjN : j = p.links.length := by omega
          subst hjN
          have hge2 : ¬ (p.links.length : Int) < (p.links.length : Int) := by omega
          have HFL2 := Lib.hid HFL.out
          have CC : Hid (∀ wy, Below wr.heap.size wr wy → Calls Try.prog 22 #[.agg #[.int .i64 p.proto, .int .i64 p.cap, .int .i64 p.k, .slice h.an p.nodes.length h.cn, .slice h.al p.links.length h.cl, .slice h.ad p.dests.length h.cd, .slice h.ac p.checks.length h.cc], .int .i64 x] wy fun e w' => ∃ A c, e = .returned (.slice A (cutL p.links x p.links.length).length c) ∧ Below wy.heap.size wy w') := Lib.hid (fun wy hb =>
            (cuts_any p h x wy (PX.out.call hb).net GD.out).mono fun e w' ⟨A, c, h1, h2, h3⟩ => ⟨A, c, h1, h3⟩)
          have HC : Hid (∀ wy, Below wr.heap.size wr wy → wy.cell? ⟨w2.heap.size, 0, none⟩ = some (.int .i64 p.proto) ∧ wy.cell? ⟨w2.heap.size, 1, none⟩ = some (.int .i64 p.cap) ∧ wy.cell? ⟨w2.heap.size, 2, none⟩ = some (.int .i64 p.k) ∧ wy.cell? ⟨w2.heap.size, 3, none⟩ = some (.slice h.an p.nodes.length h.cn) ∧
            wy.cell? ⟨w2.heap.size, 4, none⟩ = some (.slice h.al p.links.length h.cl) ∧ wy.cell? ⟨w2.heap.size, 5, none⟩ = some (.slice h.ad p.dests.length h.cd) ∧ wy.cell? ⟨w2.heap.size, 6, none⟩ = some (.slice h.ac p.checks.length h.cc)) := Lib.hid (fun wy hb => (PX.out.call hb).all)
          have e2 := HEN2.out
          have e3 := HFL2.out
          generalize (upL x p.links.length).length = K at *
          generalize (cutL p.links x p.links.length).length = C at *
          have q1 : ((E : Int) == 2 * (K : Int)) = true := by rw [beq_iff_eq]; omega
          have q2 : decide ((p.nodes.length : Int) ≤ (PK : Int) + (K : Int)) = true := by rw [decide_eq_true_eq]; omega
          have q3 : ((p.nodes.length : Int) == (PK : Int) + (K : Int)) = ((C : Int) == (K : Int)) := bool_eq (by rw [beq_iff_eq, beq_iff_eq]; omega)
          have q4 : IntKind.i64.wrap (2 * (K : Int)) = 2 * (K : Int) := IntWalk.i64_in _ (by omega)
          have q5 : IntKind.i64.wrap ((PK : Int) + (K : Int)) = (PK : Int) + (K : Int) := IntWalk.i64_in _ (by omega)
          have hs0 : Below wr.heap.size wr wr := Below.refl _ _
          have hsd : Below wr.heap.size wr wr.drew := hs0.trans ⟨rfl, rfl, rfl, Nat.le_refl _, fun _ _ => rfl⟩
          have BZ := Lib.hid PX.out.below
          clear e2 e3 hjt HFL HFL2 HEN2 PX
          go_wp2_with fail
          refine wp_region_held_drew (S := (fun wx => wx.cell? ⟨w2.heap.size, 0, none⟩ = some (.int .i64 p.proto) ∧ wx.cell? ⟨w2.heap.size, 1, none⟩ = some (.int .i64 p.cap) ∧ wx.cell? ⟨w2.heap.size, 2, none⟩ = some (.int .i64 p.k) ∧ wx.cell? ⟨w2.heap.size, 3, none⟩ = some (.slice h.an p.nodes.length h.cn) ∧ wx.cell? ⟨w2.heap.size, 4, none⟩ = some (.slice h.al p.links.length h.cl) ∧ wx.cell? ⟨w2.heap.size, 5, none⟩ = some (.slice h.ad p.dests.length h.cd) ∧ wx.cell? ⟨w2.heap.size, 6, none⟩ = some (.slice h.ac p.checks.length h.cc))) (by kernel_rfl) (HC.out _ hsd) (fun hHeld0 => ?_)
          refine take_list (i := 0) (v := ?_) rfl (by kernel_rfl) (by kernel_rfl) (by kernel_rfl) (fun _ _ _ h => h) (Or.inl ⟨by rfl, ?_⟩) (by assumption) ?_
          rotate_left
          · (intro w hSw; (try dsimp only at hSw); go_simp; try (with_reducible rfl))
          try simp only [Act.put, List.setIfInBounds_toArray, List.set_cons_zero, List.set_cons_succ]
          refine take_list (i := 1) (v := ?_) rfl (by kernel_rfl) (by kernel_rfl) (by kernel_rfl) (fun _ _ _ h => h) (Or.inl ⟨by rfl, ?_⟩) (by assumption) ?_
          rotate_left
          · (intro w hSw; (try dsimp only at hSw); go_simp; try (with_reducible rfl))
          try simp only [Act.put, List.setIfInBounds_toArray, List.set_cons_zero, List.set_cons_succ]
          refine take_list (i := 2) (v := ?_) rfl (by kernel_rfl) (by kernel_rfl) (by kernel_rfl) (fun _ _ _ h => h) (Or.inl ⟨by rfl, ?_⟩) (by assumption) ?_
          rotate_left
          · (intro w hSw; (try dsimp only at hSw); go_simp; try (with_reducible rfl))
          try simp only [Act.put, List.setIfInBounds_toArray, List.set_cons_zero, List.set_cons_succ]
          refine take_list (i := 3) (v := ?_) rfl (by kernel_rfl) (by kernel_rfl) (by kernel_rfl) (fun _ _ _ h => h) (Or.inl ⟨by rfl, ?_⟩) (by assumption) ?_
          rotate_left
          · (intro w hSw; (try dsimp only at hSw); go_simp; try (with_reducible rfl))
          try simp only [Act.put, List.setIfInBounds_toArray, List.set_cons_zero, List.set_cons_succ]
          refine take_list (i := 4) (v := ?_) rfl (by kernel_rfl) (by kernel_rfl) (by kernel_rfl) (fun _ _ _ h => h) (Or.inl ⟨by rfl, ?_⟩) (by assumption) ?_
          rotate_left
          · (intro w hSw; (try dsimp only at hSw); go_simp; try (with_reducible rfl))
          try simp only [Act.put, List.setIfInBounds_toArray, List.set_cons_zero, List.set_cons_succ]
          refine take_list (i := 5) (v := ?_) rfl (by kernel_rfl) (by kernel_rfl) (by kernel_rfl) (fun _ _ _ h => h) (Or.inl ⟨by rfl, ?_⟩) (by assumption) ?_
          rotate_left
          · (intro w hSw; (try dsimp only at hSw); go_simp; try (with_reducible rfl))
          try simp only [Act.put, List.setIfInBounds_toArray, List.set_cons_zero, List.set_cons_succ]
          refine take_list (i := 6) (v := ?_) rfl (by kernel_rfl) (by kernel_rfl) (by kernel_rfl) (fun _ _ _ h => h) (Or.inl ⟨by rfl, ?_⟩) (by assumption) ?_
          rotate_left
          · (intro w hSw; (try dsimp only at hSw); go_simp; try (with_reducible rfl))
          try simp only [Act.put, List.setIfInBounds_toArray, List.set_cons_zero, List.set_cons_succ]
          refine take_list (i := 7) (v := ?_) rfl (by kernel_rfl) (by kernel_rfl) (by kernel_rfl) (fun _ _ _ h => h) (Or.inl ⟨by rfl, ?_⟩) (by assumption) ?_
          rotate_left
          · (intro w hSw; (try dsimp only at hSw); go_simp; try (with_reducible rfl))
          try simp only [Act.put, List.setIfInBounds_toArray, List.set_cons_zero, List.set_cons_succ]
          refine take_list (i := 8) (v := ?_) rfl (by kernel_rfl) (by kernel_rfl) (by kernel_rfl) (fun _ _ _ h => h) (Or.inl ⟨by rfl, ?_⟩) (by assumption) ?_
          rotate_left
          · (intro w hSw; (try dsimp only at hSw); go_simp; try (with_reducible rfl))
          try simp only [Act.put, List.setIfInBounds_toArray, List.set_cons_zero, List.set_cons_succ]
          refine take_list (i := 9) (v := ?_) rfl (by kernel_rfl) (by kernel_rfl) (by kernel_rfl) (fun _ _ _ h => h) (Or.inl ⟨by rfl, ?_⟩) (by assumption) ?_
          rotate_left
          · (intro w hSw; (try dsimp only at hSw); go_simp; try (with_reducible rfl))
          try simp only [Act.put, List.setIfInBounds_toArray, List.set_cons_zero, List.set_cons_succ]
          refine take_list (i := 10) (v := ?_) rfl (by kernel_rfl) (by kernel_rfl) (by kernel_rfl) (fun _ _ _ h => h) (Or.inl ⟨by rfl, ?_⟩) (by assumption) ?_
          rotate_left
          · (intro w hSw; (try dsimp only at hSw); go_simp; try (with_reducible rfl))
          try simp only [Act.put, List.setIfInBounds_toArray, List.set_cons_zero, List.set_cons_succ]
          refine take_list (i := 11) (v := ?_) rfl (by kernel_rfl) (by kernel_rfl) (by kernel_rfl) (fun _ _ _ h => h) (Or.inl ⟨by rfl, ?_⟩) (by assumption) ?_
          rotate_left
          · (intro w hSw; (try dsimp only at hSw); go_simp; try (with_reducible rfl))
          try simp only [Act.put, List.setIfInBounds_toArray, List.set_cons_zero, List.set_cons_succ]
          refine take_list (i := 12) (v := ?_) rfl (by kernel_rfl) (by kernel_rfl) (by kernel_rfl) (fun _ _ _ h => h) (Or.inl ⟨by rfl, ?_⟩) (by assumption) ?_
          rotate_left
          · (intro w hSw; (try dsimp only at hSw); go_simp; try (with_reducible rfl))
          try simp only [Act.put, List.setIfInBounds_toArray, List.set_cons_zero, List.set_cons_succ]
          refine take_list (i := 13) (v := ?_) rfl (by kernel_rfl) (by kernel_rfl) (by kernel_rfl) (fun _ _ _ h => h) (Or.inl ⟨by rfl, ?_⟩) (by assumption) ?_
          rotate_left
          · (intro w hSw; (try dsimp only at hSw); go_simp; try (with_reducible rfl))
          try simp only [Act.put, List.setIfInBounds_toArray, List.set_cons_zero, List.set_cons_succ]
          refine take_list (i := 14) (v := ?_) rfl (by kernel_rfl) (by kernel_rfl) (by kernel_rfl) (fun _ _ _ h => h) (Or.inl ⟨by rfl, ?_⟩) (by assumption) ?_
          rotate_left
          · (intro w hSw; (try dsimp only at hSw); go_simp; try (with_reducible rfl))
          try simp only [Act.put, List.setIfInBounds_toArray, List.set_cons_zero, List.set_cons_succ]
          refine take_list (i := 15) (v := ?_) rfl (by kernel_rfl) (by kernel_rfl) (by kernel_rfl) (fun _ _ _ h => h) (Or.inl ⟨by rfl, ?_⟩) (by assumption) ?_
          rotate_left
          · (intro w hSw; (try dsimp only at hSw); go_simp; try (with_reducible rfl))
          try simp only [Act.put, List.setIfInBounds_toArray, List.set_cons_zero, List.set_cons_succ]
          refine take_list (i := 16) (v := ?_) rfl (by kernel_rfl) (by kernel_rfl) (by kernel_rfl) (fun _ _ _ h => h) (Or.inl ⟨by rfl, ?_⟩) (by assumption) ?_
          rotate_left
          · (intro w hSw; (try dsimp only at hSw); go_simp; try (with_reducible rfl))
          try simp only [Act.put, List.setIfInBounds_toArray, List.set_cons_zero, List.set_cons_succ]
          refine take_list (i := 17) (v := ?_) rfl (by kernel_rfl) (by kernel_rfl) (by kernel_rfl) (fun _ _ _ h => h) (Or.inl ⟨by rfl, ?_⟩) (by assumption) ?_
          rotate_left
          · (intro w hSw; (try dsimp only at hSw); go_simp; try (with_reducible rfl))
          try simp only [Act.put, List.setIfInBounds_toArray, List.set_cons_zero, List.set_cons_succ]
          refine take_list (i := 18) (v := ?_) rfl (by kernel_rfl) (by kernel_rfl) (by kernel_rfl) (fun _ _ _ h => h) (Or.inl ⟨by rfl, ?_⟩) (by assumption) ?_
          rotate_left
          · (intro w hSw; (try dsimp only at hSw); go_simp; try (with_reducible rfl))
          try simp only [Act.put, List.setIfInBounds_toArray, List.set_cons_zero, List.set_cons_succ]
          refine take_list (i := 19) (v := ?_) rfl (by kernel_rfl) (by kernel_rfl) (by kernel_rfl) (fun _ _ _ h => h) (Or.inl ⟨by rfl, ?_⟩) (by assumption) ?_
          rotate_left
          · (intro w hSw; (try dsimp only at hSw); go_simp; try (with_reducible rfl))
          try simp only [Act.put, List.setIfInBounds_toArray, List.set_cons_zero, List.set_cons_succ]
          refine take_list (i := 20) (v := ?_) rfl (by kernel_rfl) (by kernel_rfl) (by kernel_rfl) (fun _ _ _ h => h) (Or.inl ⟨by rfl, ?_⟩) (by assumption) ?_
          rotate_left
          · (intro w hSw; (try dsimp only at hSw); go_simp; try (with_reducible rfl))
          try simp only [Act.put, List.setIfInBounds_toArray, List.set_cons_zero, List.set_cons_succ]
          refine take_list (i := 21) (v := ?_) rfl (by kernel_rfl) (by kernel_rfl) (by kernel_rfl) (fun _ _ _ h => h) (Or.inl ⟨by rfl, ?_⟩) (by assumption) ?_
          rotate_left
          · (intro w hSw; (try dsimp only at hSw); go_simp; try (with_reducible rfl))
          try simp only [Act.put, List.setIfInBounds_toArray, List.set_cons_zero, List.set_cons_succ]
          refine take_list (i := 22) (v := ?_) rfl (by kernel_rfl) (by kernel_rfl) (by kernel_rfl) (fun _ _ _ h => h) (Or.inl ⟨by rfl, ?_⟩) (by assumption) ?_
          rotate_left
          · (intro w hSw; (try dsimp only at hSw); go_simp; try (with_reducible rfl))
          try simp only [Act.put, List.setIfInBounds_toArray, List.set_cons_zero, List.set_cons_succ]
          refine take_list (i := 23) (v := ?_) rfl (by kernel_rfl) (by kernel_rfl) (by kernel_rfl) (fun _ _ _ h => h) (Or.inl ⟨by rfl, ?_⟩) (by assumption) ?_
          rotate_left
          · (intro w hSw; (try dsimp only at hSw); go_simp; try (with_reducible rfl))
          try simp only [Act.put, List.setIfInBounds_toArray, List.set_cons_zero, List.set_cons_succ]
          refine take_list (i := 24) (v := ?_) rfl (by kernel_rfl) (by kernel_rfl) (by kernel_rfl) (fun _ _ _ h => h) (Or.inl ⟨by rfl, ?_⟩) (by assumption) ?_
          rotate_left
          · (intro w hSw; (try dsimp only at hSw); go_simp; try (with_reducible rfl))
          try simp only [Act.put, List.setIfInBounds_toArray, List.set_cons_zero, List.set_cons_succ]
          refine take_list (i := 25) (v := ?_) rfl (by kernel_rfl) (by kernel_rfl) (by kernel_rfl) (fun _ _ _ h => h) (Or.inl ⟨by rfl, ?_⟩) (by assumption) ?_
          rotate_left
          · (intro w hSw; (try dsimp only at hSw); go_simp; try (with_reducible rfl))
          try simp only [Act.put, List.setIfInBounds_toArray, List.set_cons_zero, List.set_cons_succ]
          refine take_list (i := 28) (v := ?_) rfl (by kernel_rfl) (by kernel_rfl) (by kernel_rfl) (fun _ _ _ h => h) (Or.inl ⟨by rfl, ?_⟩) (by assumption) ?_
          rotate_left
          · (intro w hSw; (try dsimp only at hSw); go_simp; try (with_reducible rfl))
          try simp only [Act.put, List.setIfInBounds_toArray, List.set_cons_zero, List.set_cons_succ]
          refine wpAnyH_ready (rs := [26]) (by kernel_rfl) (by simp) ?_
          refine cons_list rfl (fun K hK => ?_) AllReadyH.nil
          go_simp
          (go_at_call 22; refine (CC.out _ (by assumption)).mono ?_; rintro e wn ⟨An, cn, rfl, hbn⟩; (have hsn := since_trans hsd hbn))
          refine hK.out _ _ (HC.out _ (by assumption)) (fun hHeld1 => ?_)
          clear hK K hHeld0
          try simp only [Act.put, List.setIfInBounds_toArray, List.set_cons_zero, List.set_cons_succ]
          refine take_list (i := 27) (v := ?_) rfl (by kernel_rfl) (by kernel_rfl) (by kernel_rfl) (fun _ _ _ h => h) (Or.inl ⟨by rfl, ?_⟩) (by assumption) ?_
          rotate_left
          · (intro w hSw; (try dsimp only at hSw); go_simp; try (with_reducible rfl))
          try simp only [Act.put, List.setIfInBounds_toArray, List.set_cons_zero, List.set_cons_succ]
          refine take_list (i := 29) (v := ?_) rfl (by kernel_rfl) (by kernel_rfl) (by kernel_rfl) (fun _ _ _ h => h) (Or.inl ⟨by rfl, ?_⟩) (by assumption) ?_
          rotate_left
          · (intro w hSw; (try dsimp only at hSw); go_simp; try (with_reducible rfl))
          try simp only [Act.put, List.setIfInBounds_toArray, List.set_cons_zero, List.set_cons_succ]
          refine take_list (i := 30) (v := ?_) rfl (by kernel_rfl) (by kernel_rfl) (by kernel_rfl) (fun _ _ _ h => h) (Or.inl ⟨by rfl, ?_⟩) (by assumption) ?_
          rotate_left
          · (intro w hSw; (try dsimp only at hSw); go_simp; try (with_reducible rfl))
          try simp only [Act.put, List.setIfInBounds_toArray, List.set_cons_zero, List.set_cons_succ]
          refine take_list (i := 31) (v := ?_) rfl (by kernel_rfl) (by kernel_rfl) (by kernel_rfl) (fun _ _ _ h => h) (Or.inl ⟨by rfl, ?_⟩) (by assumption) ?_
          rotate_left
          · (intro w hSw; (try dsimp only at hSw); go_simp; try (with_reducible rfl))
          try simp only [Act.put, List.setIfInBounds_toArray, List.set_cons_zero, List.set_cons_succ]
          refine take_list (i := 32) (v := ?_) rfl (by kernel_rfl) (by kernel_rfl) (by kernel_rfl) (fun _ _ _ h => h) (Or.inl ⟨by rfl, ?_⟩) (by assumption) ?_
          rotate_left
          · (intro w hSw; (try dsimp only at hSw); go_simp; try (with_reducible rfl))
          try simp only [Act.put, List.setIfInBounds_toArray, List.set_cons_zero, List.set_cons_succ]
          refine wpAnyH_done (by kernel_rfl) ?_ _
          clear hHeld1
          go_wp2
          go_ret
          exact ⟨rfl, since_trans BZ.out hsn⟩
end Go.Proofs.Ytconeplgbemblaa

/- The walk of backstaylaw06.AttrKinds. -/
import Derived.Test.YtmioaanbehacgaaDoorBox
import Derived.Test.YtmioaanbehacgaaDoorRegs
namespace Go.Proofs.YtmioaanbehacgaaDoor
set_option linter.unusedSimpArgs false
set_option linter.unusedVariables false
open Go.RowKit

/-! ### Plainly -/
theorem none_worst {r : Rt} (h : RtOk r) : betterB rtNone r = false := by
  by_cases e : r = rtNone
  · subst e; exact betterB_self _
  · rcases betterB_total (a := rtNone) (b := r) ⟨.inl rfl, by simp [rtNone], by simp [rtNone], by simp [rtNone]⟩ h (fun h => e h.symm) with h1 | h1
    · exfalso
      have h2 := (betterB_iff _ _).1 h1
      have h3 := h.kinds
      have : rankI rtNone.kind = 0 := rfl
      rcases h2 with h2 | ⟨h2, h4⟩
      · rw [this] at h2
        rcases rankI_in r.kind with h5 | h5 | h5 <;> omega
      · rw [this] at h2
        rcases h.kind with h5 | h5 | h5
        · exact e (h.k0 h5)
        · rw [h5] at h2; simp [rankI] at h2
        · rw [h5] at h2; simp [rankI] at h2
    · exact betterB_asymm h1
theorem best_mid {r : Rt} (h : RtOk r) : bestR [rtNone, r, rtNone] = r := by
  show bestStepR (bestStepR rtNone r) rtNone = r
  have h0 : bestStepR rtNone r = r := by
    unfold bestStepR
    by_cases e : r = rtNone
    · subst e; rw [betterB_self]; rfl
    · rcases betterB_total (a := r) (b := rtNone) h ⟨.inl rfl, by simp [rtNone], by simp [rtNone], by simp [rtNone]⟩ e with h1 | h1
      · rw [h1]; rfl
      · rw [none_worst h] at h1; cases h1
  rw [h0]
  unfold bestStepR
  rw [none_worst h]; rfl
attribute [local go_sem ↓] Go.wp_at_zero Go.wp_at_succ
set_option maxRecDepth 100000 in
set_option maxHeartbeats 8000000 in
theorem attrKinds_walk (a0 a1 : Option Addr) (c0 c1 : Nat) (l0 l1 : List Int) (n2 : Int) (w : World) (h0 : InRow w a0 c0 l0) (h1 : InRow w a1 c1 l1) (k2 : In64 n2) (ht : Tab w) :
    Calls Tryd.prog 9 #[.slice a0 l0.length c0, .slice a1 l1.length c1, .int .i64 n2] w fun e w' => e = .returned (.bool true) ∧ Below w.heap.size w w' := by
  generalize hR0 : routeR l0 = r0
  generalize hR1 : routeR l1 = r1
  have K0 := Lib.hid hR0
  have K1 := Lib.hid hR1
  have O0 := Lib.hid (hR0 ▸ routeR_ok l0)
  have O1 := Lib.hid (hR1 ▸ routeR_ok l1)
  have H0 := Lib.hid h0
  have H1 := Lib.hid h1
  have HT := Lib.hid ht
  have I2 := Lib.hid k2
  clear hR0 hR1 h0 h1 ht k2
  go_enter Tryd.func9, Tryd.ntmps9
  go_wp2_with fail
  refine (awake6 _ HT.out).mono ?_
  rintro e w1 ⟨rfl, hb1⟩
  have J0 := Lib.hid (H0.out.call hb1)
  have B1 := Lib.hid hb1
  clear hb1
  go_wp2_with fail
  refine (route_any l0 _ _ _ J0.out.rd J0.out.in64 J0.out.len).mono ?_
  rintro e w2 ⟨A0, d0, rfl, ho, hb⟩
  rw [K0.out] at ho ⊢
  have B2 := Lib.hid (since_trans B1.out hb)
  have X0 := Lib.hid (Box.new (RtR.of_own ho))
  clear hb ho
  unfold rtV
  go_wp2_with fail
  have B3 := Lib.hid (since_alloc B2.out (.cells #[.int .i64 r0.kind, .int .i64 r0.cost, .slice A0 r0.path.length d0] 24))
  refine (route_any l1 _ _ _ (H1.out.call B3.out).rd H1.out.in64 H1.out.len).mono ?_
  rintro e w3 ⟨A1, d1, rfl, ho, hb⟩
  rw [K1.out] at ho ⊢
  have B4 := Lib.hid (since_trans B3.out hb)
  have Y0 := Lib.hid (X0.out.call hb)
  have X1 := Lib.hid (Box.new (RtR.of_own ho))
  clear hb ho
  unfold rtV
  go_wp2_with fail
  refine (pick6_any n2 16 _ I2.out (by omega) (by omega)).mono ?_
  rintro e w' ⟨rfl, rfl⟩
  generalize pickV n2 16 = v
  have B5 := Lib.hid (since_alloc B4.out (.cells #[.int .i64 r1.kind, .int .i64 r1.cost, .slice A1 r1.path.length d1] 24))
  have Y0 := Lib.hid (Y0.out.alloc (.cells #[.int .i64 r1.kind, .int .i64 r1.cost, .slice A1 r1.path.length d1] 24))
  go_upto_region 6 with fail
  obtain ⟨bv, hbv⟩ : ∃ n, n = (w3.alloc (.cells #[.int .i64 r1.kind, .int .i64 r1.cost, .slice A1 r1.path.length d1] 24)).heap.size := ⟨_, rfl⟩
  have hw3 : bv = w3.heap.size + 1 := by rw [hbv]; simp
  have Xv := Lib.hid (Box.new (w := w3.alloc (.cells #[.int .i64 r1.kind, .int .i64 r1.cost, .slice A1 r1.path.length d1] 24)) (r := ⟨1, v, []⟩) (A := none) (c := 0) ⟨Rd.nil _, Nat.le_refl 0, by decide⟩)
  rw [← hbv] at Xv
  obtain ⟨bn, hbn0⟩ : ∃ n, n = ((w3.alloc (.cells #[.int .i64 r1.kind, .int .i64 r1.cost, .slice A1 r1.path.length d1] 24)).alloc (.cells #[.int .i64 1, .int .i64 v, .slice none 0 0] 24)).heap.size := ⟨_, rfl⟩
  have hw4 : bn = w3.heap.size + 1 + 1 := by rw [hbn0]; simp
  have Xn := Lib.hid (Box.new (w := (w3.alloc (.cells #[.int .i64 r1.kind, .int .i64 r1.cost, .slice A1 r1.path.length d1] 24)).alloc (.cells #[.int .i64 1, .int .i64 v, .slice none 0 0] 24)) (r := rtNone) (A := none) (c := 0) ⟨Rd.nil _, Nat.le_refl 0, by decide⟩)
  rw [← hbn0] at Xn
  have BV := Lib.hid (since_alloc (since_alloc B5.out (.cells #[.int .i64 1, .int .i64 v, .slice none 0 0] 24)) (.cells #[.int .i64 0, .int .i64 0, .slice none 0 0] 24))
  have Z0 := Lib.hid ((Y0.out.alloc (.cells #[.int .i64 1, .int .i64 v, .slice none 0 0] 24)).alloc (.cells #[.int .i64 0, .int .i64 0, .slice none 0 0] 24))
  have Z1 := Lib.hid ((X1.out.alloc (.cells #[.int .i64 1, .int .i64 v, .slice none 0 0] 24)).alloc (.cells #[.int .i64 0, .int .i64 0, .slice none 0 0] 24))
  have Zv := Lib.hid (Xv.out.alloc (.cells #[.int .i64 0, .int .i64 0, .slice none 0 0] 24))
  have Zn : Hid (Box (((w3.alloc (.cells #[.int .i64 r1.kind, .int .i64 r1.cost, .slice A1 r1.path.length d1] 24)).alloc (.cells #[.int .i64 1, .int .i64 v, .slice none 0 0] 24)).alloc (.cells #[.int .i64 0, .int .i64 0, .slice none 0 0] 24)) bn rtNone none 0) := Xn
  clear hbv hbn0 Xn Xv X1 Y0 X0 B5 B4 B3 B2
  rw [← hw4, ← hw3]
  generalize (((w3.alloc (.cells #[.int .i64 r1.kind, .int .i64 r1.cost, .slice A1 r1.path.length d1] 24)).alloc (.cells #[.int .i64 1, .int .i64 v, .slice none 0 0] 24)).alloc (.cells #[.int .i64 0, .int .i64 0, .slice none 0 0] 24)) = wv at *
  clear hw3 hw4
  have hp6 : r0.path.length ≤ 1000000 := by
    rcases O0.out.kind with e | e | e
    · rw [O0.out.k0 e]; simp [rtNone]
    · rw [(O0.out.k1 e).2.2]; simp
    · have := (O0.out.k2 e).2.1; omega
  have hc0 : 0 ≤ r0.cost ∨ r0.kind ≠ 1 := by
    by_cases e : r0.kind = 1
    · exact .inl (O0.out.k1 e).1
    · exact .inr e
  have hk0 : r0.kind = 0 → r0 = rtNone := O0.out.k0
  have HX : Hid (∀ wy, Below wv.heap.size wv wy → (wy.cell? ⟨w2.heap.size, 0, none⟩ = some (.int .i64 r0.kind) ∧ wy.cell? ⟨w2.heap.size, 1, none⟩ = some (.int .i64 r0.cost) ∧ wy.cell? ⟨w2.heap.size, 2, none⟩ = some (.slice A0 r0.path.length d0)) ∧ (wy.cell? ⟨w3.heap.size, 0, none⟩ = some (.int .i64 r1.kind) ∧ wy.cell? ⟨w3.heap.size, 1, none⟩ = some (.int .i64 r1.cost) ∧ wy.cell? ⟨w3.heap.size, 2, none⟩ = some (.slice A1 r1.path.length d1)) ∧ (wy.cell? ⟨bv, 0, none⟩ = some (.int .i64 1) ∧ wy.cell? ⟨bv, 1, none⟩ = some (.int .i64 v) ∧ wy.cell? ⟨bv, 2, none⟩ = some (.slice none 0 0)) ∧ (wy.cell? ⟨bn, 0, none⟩ = some (.int .i64 0) ∧ wy.cell? ⟨bn, 1, none⟩ = some (.int .i64 0) ∧ wy.cell? ⟨bn, 2, none⟩ = some (.slice none 0 0))) := Lib.hid (fun wy hb =>
    ⟨(Z0.out.call hb).at_, (Z1.out.call hb).at_, (Zv.out.call hb).at_, (Zn.out.call hb).at_⟩)
  have hs0 : Below wv.heap.size wv wv := Below.refl _ _
  have hsd : Below wv.heap.size wv wv.drew := hs0.trans ⟨rfl, rfl, rfl, Nat.le_refl _, fun _ _ => rfl⟩
  obtain ⟨rk, rc, p⟩ := r0
  simp only at hp6 hc0 hk0 HX
  rcases O0.out.kind with e | e | e
  · simp only at e; subst e
    have hrt := hk0 rfl
    clear hk0 hc0
    have C3 : Hid (∀ wy, Below wv.heap.size wv wy → Calls Tryd.prog 21 #[.agg #[.int .i64 0, .int .i64 rc, .slice A0 p.length d0], .agg #[.int .i64 0, .int .i64 0, .slice none 0 0]] wy fun e w' => e = .returned (.bool false) ∧ Below wy.heap.size wy w') := Lib.hid (fun wy hb =>
      (better_rt ⟨0, rc, p⟩ rtNone A0 none d0 0 wy (Z0.out.call hb).rt (Zn.out.call hb).rt).mono fun e w' ⟨h1, h2⟩ => ⟨by rw [h1, hrt, betterB_self], h2⟩)
    have C4 : Hid (∀ wy, Below wv.heap.size wv wy → Calls Tryd.prog 21 #[.agg #[.int .i64 0, .int .i64 0, .slice none 0 0], .agg #[.int .i64 r1.kind, .int .i64 r1.cost, .slice A1 r1.path.length d1]] wy fun e w' => e = .returned (.bool false) ∧ Below wy.heap.size wy w') := Lib.hid (fun wy hb =>
      (better_rt rtNone r1 none A1 0 d1 wy (Zn.out.call hb).rt (Z1.out.call hb).rt).mono fun e w' ⟨h1, h2⟩ => ⟨by rw [h1, none_worst O1.out], h2⟩)
    have M0 : Hid (∀ wy, Below wv.heap.size wv wy → Calls Tryd.prog 23 #[.slice none 0 0] wy fun e w' => ∃ A c, e = .returned (.agg #[.int .i64 0, .int .i64 0, .slice A 0 c]) ∧ RtR w' w'.heap.size rtNone A c ∧ Below wy.heap.size wy w') := Lib.hid (fun wy hb =>
      (best_any [] none 0 wy ⟨Rd.nil _, by intro z hz; cases hz⟩ (by simp) (by intro z hz; cases hz)).mono fun e w' ⟨A, c, h1, h2, _, h3⟩ => ⟨A, c, h1, ⟨h2.rd, h2.2.1, h2.2.2.1⟩, h3⟩)
    have S0 : Hid (∀ wy, Below wv.heap.size wv wy → ∀ A c, RtR wy wy.heap.size rtNone A c → Calls Tryd.prog 19 #[.agg #[.int .i64 0, .int .i64 0, .slice A 0 c], .agg #[.int .i64 0, .int .i64 0, .slice none 0 0]] wy fun e w' => e = .returned (.bool true) ∧ Below wy.heap.size wy w') := Lib.hid (fun wy hb A c hr =>
      (same_rt rtNone rtNone A none c 0 wy hr (Zn.out.call hb).rt).mono fun e w' ⟨h1, h2⟩ => ⟨by rw [h1]; simp, h2⟩)
    have M1 : Hid (∀ wy, Below wv.heap.size wv wy → Calls Tryd.prog 23 #[.slice (some ⟨wy.heap.size, 0, none⟩) 3 3] (wy.alloc (.cells #[.int .i64 0, .int .i64 0, .slice none 0 0, .int .i64 0, .int .i64 rc, .slice A0 p.length d0, .int .i64 0, .int .i64 0, .slice none 0 0] 24)) fun e w' => ∃ A c, e = .returned (.agg #[.int .i64 0, .int .i64 rc, .slice A p.length c]) ∧ RtR w' w'.heap.size ⟨0, rc, p⟩ A c ∧ Below wy.heap.size wy w') := Lib.hid (fun wy hb => by
      have hb1 := since_alloc hb (.cells #[.int .i64 0, .int .i64 0, .slice none 0 0, .int .i64 0, .int .i64 rc, .slice A0 p.length d0, .int .i64 0, .int .i64 0, .slice none 0 0] 24)
      refine (best_any [(rtNone, (none, 0)), (⟨0, rc, p⟩, (A0, d0)), (rtNone, (none, 0))] _ _ _ ⟨Rd.new rfl rfl, ?_⟩ (by simp) (by intro z hz; simp at hz; rcases hz with rfl | rfl | rfl <;> (first | exact hp6 | simp [rtNone]))).mono ?_
      · intro z hz
        simp at hz
        rcases hz with rfl | rfl | rfl
        · exact (Zn.out.call hb1).rt
        · exact (Z0.out.call hb1).rt
        · exact (Zn.out.call hb1).rt
      · rintro e w' ⟨A, c, h1, h2, _, h3⟩
        have hbest : bestR [rtNone, ⟨0, rc, p⟩, rtNone] = ⟨0, rc, p⟩ := best_mid O0.out
        simp only [List.map_cons, List.map_nil, hbest] at h1 h2
        exact ⟨A, c, h1, ⟨h2.rd, h2.2.1, h2.2.2.1⟩, ((Below.refl _ _).alloc (Nat.le_refl _) _).trans (h3.mono (by simp))⟩)
    have S1 : Hid (∀ wy, Below wv.heap.size wv wy → ∀ A c, RtR wy wy.heap.size ⟨0, rc, p⟩ A c → Calls Tryd.prog 19 #[.agg #[.int .i64 0, .int .i64 rc, .slice A p.length c], .agg #[.int .i64 0, .int .i64 rc, .slice A0 p.length d0]] wy fun e w' => e = .returned (.bool true) ∧ Below wy.heap.size wy w') := Lib.hid (fun wy hb A c hr =>
      (same_rt ⟨0, rc, p⟩ ⟨0, rc, p⟩ A A0 c d0 wy hr (Z0.out.call hb).rt).mono fun e w' ⟨h1, h2⟩ => ⟨by rw [h1]; simp, h2⟩)
    have L1 : Hid (∀ wy, Below wv.heap.size wv wy → Calls Tryd.prog 17 #[.agg #[.int .i64 0, .int .i64 rc, .slice A0 p.length d0]] wy fun e w' => e = .returned (.int .i64 (-1)) ∧ Below wy.heap.size wy w') := Lib.hid (fun wy hb => length_rt ⟨0, rc, p⟩ A0 d0 wy)
    go_wp2_with fail
    refine wp_region_held_drew (S := (fun wx => (wx.cell? ⟨w2.heap.size, 0, none⟩ = some (.int .i64 0) ∧ wx.cell? ⟨w2.heap.size, 1, none⟩ = some (.int .i64 rc) ∧ wx.cell? ⟨w2.heap.size, 2, none⟩ = some (.slice A0 p.length d0)) ∧ (wx.cell? ⟨w3.heap.size, 0, none⟩ = some (.int .i64 r1.kind) ∧ wx.cell? ⟨w3.heap.size, 1, none⟩ = some (.int .i64 r1.cost) ∧ wx.cell? ⟨w3.heap.size, 2, none⟩ = some (.slice A1 r1.path.length d1)) ∧ (wx.cell? ⟨bv, 0, none⟩ = some (.int .i64 1) ∧ wx.cell? ⟨bv, 1, none⟩ = some (.int .i64 v) ∧ wx.cell? ⟨bv, 2, none⟩ = some (.slice none 0 0)) ∧ (wx.cell? ⟨bn, 0, none⟩ = some (.int .i64 0) ∧ wx.cell? ⟨bn, 1, none⟩ = some (.int .i64 0) ∧ wx.cell? ⟨bn, 2, none⟩ = some (.slice none 0 0)))) (by kernel_rfl) (HX.out _ hsd) (fun hHeld0 => ?_)
    refine take_list (i := 0) (v := ?_) rfl (by kernel_rfl) (by kernel_rfl) (by kernel_rfl) (fun _ _ _ h => h) (Or.inl ⟨by rfl, ?_⟩) (by assumption) ?_
    rotate_left
    · (intro w hSw; (try dsimp only at hSw); go_simp; try (with_reducible rfl))
    try simp only [Act.put, List.setIfInBounds_toArray, List.set_cons_zero, List.set_cons_succ]
    refine take_list (i := 1) (v := ?_) rfl (by kernel_rfl) (by kernel_rfl) (by kernel_rfl) (fun _ _ _ h => h) (Or.inl ⟨by rfl, ?_⟩) (by assumption) ?_
    rotate_left
    · (intro w hSw; (try dsimp only at hSw); go_simp; try (with_reducible rfl))
    try simp only [Act.put, List.setIfInBounds_toArray, List.set_cons_zero, List.set_cons_succ]
    refine take_list (i := 2) (v := ?_) rfl (by kernel_rfl) (by kernel_rfl) (by kernel_rfl) (fun _ _ _ h => h) (Or.inl ⟨by rfl, ?_⟩) (by assumption) ?_
    rotate_left
    · (intro w hSw; (try dsimp only at hSw); go_simp; try (with_reducible rfl))
    try simp only [Act.put, List.setIfInBounds_toArray, List.set_cons_zero, List.set_cons_succ]
    refine take_list (i := 3) (v := ?_) rfl (by kernel_rfl) (by kernel_rfl) (by kernel_rfl) (fun _ _ _ h => h) (Or.inl ⟨by rfl, ?_⟩) (by assumption) ?_
    rotate_left
    · (intro w hSw; (try dsimp only at hSw); go_simp; try (with_reducible rfl))
    try simp only [Act.put, List.setIfInBounds_toArray, List.set_cons_zero, List.set_cons_succ]
    refine take_list (i := 4) (v := ?_) rfl (by kernel_rfl) (by kernel_rfl) (by kernel_rfl) (fun _ _ _ h => h) (Or.inl ⟨by rfl, ?_⟩) (by assumption) ?_
    rotate_left
    · (intro w hSw; (try dsimp only at hSw); go_simp; try (with_reducible rfl))
    try simp only [Act.put, List.setIfInBounds_toArray, List.set_cons_zero, List.set_cons_succ]
    refine take_list (i := 5) (v := ?_) rfl (by kernel_rfl) (by kernel_rfl) (by kernel_rfl) (fun _ _ _ h => h) (Or.inl ⟨by rfl, ?_⟩) (by assumption) ?_
    rotate_left
    · (intro w hSw; (try dsimp only at hSw); go_simp; try (with_reducible rfl))
    try simp only [Act.put, List.setIfInBounds_toArray, List.set_cons_zero, List.set_cons_succ]
    refine take_list (i := 6) (v := undef) rfl (by kernel_rfl) (by kernel_rfl) (by kernel_rfl) (fun _ _ _ h => h) (Or.inr ⟨by rfl, rfl⟩) (by assumption) ?_
    try simp only [Act.put, List.setIfInBounds_toArray, List.set_cons_zero, List.set_cons_succ]
    refine take_list (i := 7) (v := undef) rfl (by kernel_rfl) (by kernel_rfl) (by kernel_rfl) (fun _ _ _ h => h) (Or.inr ⟨by rfl, rfl⟩) (by assumption) ?_
    try simp only [Act.put, List.setIfInBounds_toArray, List.set_cons_zero, List.set_cons_succ]
    refine take_list (i := 8) (v := undef) rfl (by kernel_rfl) (by kernel_rfl) (by kernel_rfl) (fun _ _ _ h => h) (Or.inr ⟨by rfl, rfl⟩) (by assumption) ?_
    try simp only [Act.put, List.setIfInBounds_toArray, List.set_cons_zero, List.set_cons_succ]
    refine take_list (i := 9) (v := undef) rfl (by kernel_rfl) (by kernel_rfl) (by kernel_rfl) (fun _ _ _ h => h) (Or.inr ⟨by rfl, rfl⟩) (by assumption) ?_
    try simp only [Act.put, List.setIfInBounds_toArray, List.set_cons_zero, List.set_cons_succ]
    refine take_list (i := 10) (v := undef) rfl (by kernel_rfl) (by kernel_rfl) (by kernel_rfl) (fun _ _ _ h => h) (Or.inr ⟨by rfl, rfl⟩) (by assumption) ?_
    try simp only [Act.put, List.setIfInBounds_toArray, List.set_cons_zero, List.set_cons_succ]
    refine take_list (i := 11) (v := undef) rfl (by kernel_rfl) (by kernel_rfl) (by kernel_rfl) (fun _ _ _ h => h) (Or.inr ⟨by rfl, rfl⟩) (by assumption) ?_
    try simp only [Act.put, List.setIfInBounds_toArray, List.set_cons_zero, List.set_cons_succ]
    refine take_list (i := 12) (v := undef) rfl (by kernel_rfl) (by kernel_rfl) (by kernel_rfl) (fun _ _ _ h => h) (Or.inr ⟨by rfl, rfl⟩) (by assumption) ?_
    try simp only [Act.put, List.setIfInBounds_toArray, List.set_cons_zero, List.set_cons_succ]
    refine take_list (i := 13) (v := undef) rfl (by kernel_rfl) (by kernel_rfl) (by kernel_rfl) (fun _ _ _ h => h) (Or.inr ⟨by rfl, rfl⟩) (by assumption) ?_
    try simp only [Act.put, List.setIfInBounds_toArray, List.set_cons_zero, List.set_cons_succ]
    refine take_list (i := 14) (v := undef) rfl (by kernel_rfl) (by kernel_rfl) (by kernel_rfl) (fun _ _ _ h => h) (Or.inr ⟨by rfl, rfl⟩) (by assumption) ?_
    try simp only [Act.put, List.setIfInBounds_toArray, List.set_cons_zero, List.set_cons_succ]
    refine take_list (i := 15) (v := ?_) rfl (by kernel_rfl) (by kernel_rfl) (by kernel_rfl) (fun _ _ _ h => h) (Or.inl ⟨by rfl, ?_⟩) (by assumption) ?_
    rotate_left
    · (intro w hSw; (try dsimp only at hSw); go_simp; try (with_reducible rfl))
    try simp only [Act.put, List.setIfInBounds_toArray, List.set_cons_zero, List.set_cons_succ]
    refine take_list (i := 16) (v := ?_) rfl (by kernel_rfl) (by kernel_rfl) (by kernel_rfl) (fun _ _ _ h => h) (Or.inl ⟨by rfl, ?_⟩) (by assumption) ?_
    rotate_left
    · (intro w hSw; (try dsimp only at hSw); go_simp; try (with_reducible rfl))
    try simp only [Act.put, List.setIfInBounds_toArray, List.set_cons_zero, List.set_cons_succ]
    refine take_list (i := 17) (v := ?_) rfl (by kernel_rfl) (by kernel_rfl) (by kernel_rfl) (fun _ _ _ h => h) (Or.inl ⟨by rfl, ?_⟩) (by assumption) ?_
    rotate_left
    · (intro w hSw; (try dsimp only at hSw); go_simp; try (with_reducible rfl))
    try simp only [Act.put, List.setIfInBounds_toArray, List.set_cons_zero, List.set_cons_succ]
    refine take_list (i := 18) (v := ?_) rfl (by kernel_rfl) (by kernel_rfl) (by kernel_rfl) (fun _ _ _ h => h) (Or.inl ⟨by rfl, ?_⟩) (by assumption) ?_
    rotate_left
    · (intro w hSw; (try dsimp only at hSw); go_simp; try (with_reducible rfl))
    try simp only [Act.put, List.setIfInBounds_toArray, List.set_cons_zero, List.set_cons_succ]
    refine take_list (i := 19) (v := ?_) rfl (by kernel_rfl) (by kernel_rfl) (by kernel_rfl) (fun _ _ _ h => h) (Or.inl ⟨by rfl, ?_⟩) (by assumption) ?_
    rotate_left
    · (intro w hSw; (try dsimp only at hSw); go_simp; try (with_reducible rfl))
    try simp only [Act.put, List.setIfInBounds_toArray, List.set_cons_zero, List.set_cons_succ]
    refine take_list (i := 21) (v := ?_) rfl (by kernel_rfl) (by kernel_rfl) (by kernel_rfl) (fun _ _ _ h => h) (Or.inl ⟨by rfl, ?_⟩) (by assumption) ?_
    rotate_left
    · (intro w hSw; (try dsimp only at hSw); go_simp; try (with_reducible rfl))
    try simp only [Act.put, List.setIfInBounds_toArray, List.set_cons_zero, List.set_cons_succ]
    refine take_list (i := 22) (v := ?_) rfl (by kernel_rfl) (by kernel_rfl) (by kernel_rfl) (fun _ _ _ h => h) (Or.inl ⟨by rfl, ?_⟩) (by assumption) ?_
    rotate_left
    · (intro w hSw; (try dsimp only at hSw); go_simp; try (with_reducible rfl))
    try simp only [Act.put, List.setIfInBounds_toArray, List.set_cons_zero, List.set_cons_succ]
    refine take_list (i := 23) (v := ?_) rfl (by kernel_rfl) (by kernel_rfl) (by kernel_rfl) (fun _ _ _ h => h) (Or.inl ⟨by rfl, ?_⟩) (by assumption) ?_
    rotate_left
    · (intro w hSw; (try dsimp only at hSw); go_simp; try (with_reducible rfl))
    try simp only [Act.put, List.setIfInBounds_toArray, List.set_cons_zero, List.set_cons_succ]
    refine wpAnyH_ready (rs := [20]) (by kernel_rfl) (by simp) ?_
    refine cons_list rfl (fun K hK => ?_) AllReadyH.nil
    go_simp
    (go_at_call 21; refine (C3.out _ (by assumption)).mono ?_; rintro e wn ⟨rfl, hbn⟩; (have hsn := since_trans (by assumption) hbn))
    refine hK.out _ _ ((by first | exact HX.out _ (by assumption) | exact HX.out _ (since_alloc (by assumption) _))) (fun hHeld1 => ?_)
    clear hK K hHeld0
    try simp only [Act.put, List.setIfInBounds_toArray, List.set_cons_zero, List.set_cons_succ]
    refine take_list (i := 24) (v := ?_) rfl (by kernel_rfl) (by kernel_rfl) (by kernel_rfl) (fun _ _ _ h => h) (Or.inl ⟨by rfl, ?_⟩) (by assumption) ?_
    rotate_left
    · (intro w hSw; (try dsimp only at hSw); go_simp; try (with_reducible rfl))
    try simp only [Act.put, List.setIfInBounds_toArray, List.set_cons_zero, List.set_cons_succ]
    refine take_list (i := 25) (v := ?_) rfl (by kernel_rfl) (by kernel_rfl) (by kernel_rfl) (fun _ _ _ h => h) (Or.inl ⟨by rfl, ?_⟩) (by assumption) ?_
    rotate_left
    · (intro w hSw; (try dsimp only at hSw); go_simp; try (with_reducible rfl))
    try simp only [Act.put, List.setIfInBounds_toArray, List.set_cons_zero, List.set_cons_succ]
    refine take_list (i := 26) (v := ?_) rfl (by kernel_rfl) (by kernel_rfl) (by kernel_rfl) (fun _ _ _ h => h) (Or.inl ⟨by rfl, ?_⟩) (by assumption) ?_
    rotate_left
    · (intro w hSw; (try dsimp only at hSw); go_simp; try (with_reducible rfl))
    try simp only [Act.put, List.setIfInBounds_toArray, List.set_cons_zero, List.set_cons_succ]
    refine take_list (i := 27) (v := ?_) rfl (by kernel_rfl) (by kernel_rfl) (by kernel_rfl) (fun _ _ _ h => h) (Or.inl ⟨by rfl, ?_⟩) (by assumption) ?_
    rotate_left
    · (intro w hSw; (try dsimp only at hSw); go_simp; try (with_reducible rfl))
    try simp only [Act.put, List.setIfInBounds_toArray, List.set_cons_zero, List.set_cons_succ]
    refine take_list (i := 28) (v := ?_) rfl (by kernel_rfl) (by kernel_rfl) (by kernel_rfl) (fun _ _ _ h => h) (Or.inl ⟨by rfl, ?_⟩) (by assumption) ?_
    rotate_left
    · (intro w hSw; (try dsimp only at hSw); go_simp; try (with_reducible rfl))
    try simp only [Act.put, List.setIfInBounds_toArray, List.set_cons_zero, List.set_cons_succ]
    refine wpAnyH_ready (rs := [29]) (by kernel_rfl) (by simp) ?_
    refine cons_list rfl (fun K hK => ?_) AllReadyH.nil
    go_simp
    (go_at_call 21; refine (C4.out _ (by assumption)).mono ?_; rintro e wn ⟨rfl, hbn⟩; (have hsn := since_trans (by assumption) hbn))
    refine hK.out _ _ ((by first | exact HX.out _ (by assumption) | exact HX.out _ (since_alloc (by assumption) _))) (fun hHeld2 => ?_)
    clear hK K hHeld1
    try simp only [Act.put, List.setIfInBounds_toArray, List.set_cons_zero, List.set_cons_succ]
    refine take_list (i := 30) (v := ?_) rfl (by kernel_rfl) (by kernel_rfl) (by kernel_rfl) (fun _ _ _ h => h) (Or.inl ⟨by rfl, ?_⟩) (by assumption) ?_
    rotate_left
    · (intro w hSw; (try dsimp only at hSw); go_simp; try (with_reducible rfl))
    try simp only [Act.put, List.setIfInBounds_toArray, List.set_cons_zero, List.set_cons_succ]
    refine take_list (i := 31) (v := ?_) rfl (by kernel_rfl) (by kernel_rfl) (by kernel_rfl) (fun _ _ _ h => h) (Or.inl ⟨by rfl, ?_⟩) (by assumption) ?_
    rotate_left
    · (intro w hSw; (try dsimp only at hSw); go_simp; try (with_reducible rfl))
    try simp only [Act.put, List.setIfInBounds_toArray, List.set_cons_zero, List.set_cons_succ]
    refine take_list (i := 32) (v := ?_) rfl (by kernel_rfl) (by kernel_rfl) (by kernel_rfl) (fun _ _ _ h => h) (Or.inl ⟨by rfl, ?_⟩) (by assumption) ?_
    rotate_left
    · (intro w hSw; (try dsimp only at hSw); go_simp; try (with_reducible rfl))
    try simp only [Act.put, List.setIfInBounds_toArray, List.set_cons_zero, List.set_cons_succ]
    refine take_list (i := 34) (v := ?_) rfl (by kernel_rfl) (by kernel_rfl) (by kernel_rfl) (fun _ _ _ h => h) (Or.inl ⟨by rfl, ?_⟩) (by assumption) ?_
    rotate_left
    · (intro w hSw; (try dsimp only at hSw); go_simp; try (with_reducible rfl))
    try simp only [Act.put, List.setIfInBounds_toArray, List.set_cons_zero, List.set_cons_succ]
    refine wpAnyH_ready (rs := [33]) (by kernel_rfl) (by simp) ?_
    refine cons_list rfl (fun K hK => ?_) AllReadyH.nil
    go_simp
    (go_at_call 23; refine (M0.out _ (by assumption)).mono ?_; rintro e wn ⟨An, cn, rfl, hrn, hbn⟩; (have hsn := since_trans (by assumption) hbn))
    refine hK.out _ _ ((by first | exact HX.out _ (by assumption) | exact HX.out _ (since_alloc (by assumption) _))) (fun hHeld3 => ?_)
    clear hK K hHeld2
    try simp only [Act.put, List.setIfInBounds_toArray, List.set_cons_zero, List.set_cons_succ]
    refine wpAnyH_ready (rs := [35]) (by kernel_rfl) (by simp) ?_
    refine cons_list rfl (fun K hK => ?_) AllReadyH.nil
    go_simp
    (go_at_call 19; refine (S0.out _ (by assumption) _ _ hrn).mono ?_; rintro e wn ⟨rfl, hbn⟩; (have hsn := since_trans (by assumption) hbn))
    refine hK.out _ _ ((by first | exact HX.out _ (by assumption) | exact HX.out _ (since_alloc (by assumption) _))) (fun hHeld4 => ?_)
    clear hK K hHeld3
    try simp only [Act.put, List.setIfInBounds_toArray, List.set_cons_zero, List.set_cons_succ]
    refine take_list (i := 36) (v := ?_) rfl (by kernel_rfl) (by kernel_rfl) (by kernel_rfl) (fun _ _ _ h => h) (Or.inl ⟨by rfl, ?_⟩) (by assumption) ?_
    rotate_left
    · (intro w hSw; (try dsimp only at hSw); go_simp; try (with_reducible rfl))
    try simp only [Act.put, List.setIfInBounds_toArray, List.set_cons_zero, List.set_cons_succ]
    refine take_list (i := 37) (v := ?_) rfl (by kernel_rfl) (by kernel_rfl) (by kernel_rfl) (fun _ _ _ h => h) (Or.inl ⟨by rfl, ?_⟩) (by assumption) ?_
    rotate_left
    · (intro w hSw; (try dsimp only at hSw); go_simp; try (with_reducible rfl))
    try simp only [Act.put, List.setIfInBounds_toArray, List.set_cons_zero, List.set_cons_succ]
    refine take_list (i := 38) (v := ?_) rfl (by kernel_rfl) (by kernel_rfl) (by kernel_rfl) (fun _ _ _ h => h) (Or.inl ⟨by rfl, ?_⟩) (by assumption) ?_
    rotate_left
    · (intro w hSw; (try dsimp only at hSw); go_simp; try (with_reducible rfl))
    try simp only [Act.put, List.setIfInBounds_toArray, List.set_cons_zero, List.set_cons_succ]
    refine take_list (i := 39) (v := ?_) rfl (by kernel_rfl) (by kernel_rfl) (by kernel_rfl) (fun _ _ _ h => h) (Or.inl ⟨by rfl, ?_⟩) (by assumption) ?_
    rotate_left
    · (intro w hSw; (try dsimp only at hSw); go_simp; try (with_reducible rfl))
    try simp only [Act.put, List.setIfInBounds_toArray, List.set_cons_zero, List.set_cons_succ]
    refine take_list (i := 40) (v := ?_) rfl (by kernel_rfl) (by kernel_rfl) (by kernel_rfl) (fun _ _ _ h => h) (Or.inl ⟨by rfl, ?_⟩) (by assumption) ?_
    rotate_left
    · (intro w hSw; (try dsimp only at hSw); go_simp; try (with_reducible rfl))
    try simp only [Act.put, List.setIfInBounds_toArray, List.set_cons_zero, List.set_cons_succ]
    refine take_list (i := 43) (v := ?_) rfl (by kernel_rfl) (by kernel_rfl) (by kernel_rfl) (fun _ _ _ h => h) (Or.inl ⟨by rfl, ?_⟩) (by assumption) ?_
    rotate_left
    · (intro w hSw; (try dsimp only at hSw); go_simp; try (with_reducible rfl))
    try simp only [Act.put, List.setIfInBounds_toArray, List.set_cons_zero, List.set_cons_succ]
    refine wpAnyH_ready (rs := [41]) (by kernel_rfl) (by simp) ?_
    refine cons_list rfl (fun K hK => ?_) AllReadyH.nil
    go_simp
    refine hK.out _ _ ((by first | exact HX.out _ (by assumption) | exact HX.out _ (since_alloc (by assumption) _))) (fun hHeld5 => ?_)
    clear hK K hHeld4
    try simp only [Act.put, List.setIfInBounds_toArray, List.set_cons_zero, List.set_cons_succ]
    refine wpAnyH_ready (rs := [42]) (by kernel_rfl) (by simp) ?_
    refine cons_list rfl (fun K hK => ?_) AllReadyH.nil
    go_simp
    (go_at_call 23; refine (M1.out _ (by assumption)).mono ?_; rintro e wn ⟨Am, cm, rfl, hrm, hbn⟩; (have hsn := since_trans (by assumption) hbn))
    refine hK.out _ _ ((by first | exact HX.out _ (by assumption) | exact HX.out _ (since_alloc (by assumption) _))) (fun hHeld6 => ?_)
    clear hK K hHeld5
    try simp only [Act.put, List.setIfInBounds_toArray, List.set_cons_zero, List.set_cons_succ]
    refine wpAnyH_ready (rs := [44]) (by kernel_rfl) (by simp) ?_
    refine cons_list rfl (fun K hK => ?_) AllReadyH.nil
    go_simp
    (go_at_call 19; refine (S1.out _ (by assumption) _ _ hrm).mono ?_; rintro e wn ⟨rfl, hbn⟩; (have hsn := since_trans (by assumption) hbn))
    refine hK.out _ _ ((by first | exact HX.out _ (by assumption) | exact HX.out _ (since_alloc (by assumption) _))) (fun hHeld7 => ?_)
    clear hK K hHeld6
    try simp only [Act.put, List.setIfInBounds_toArray, List.set_cons_zero, List.set_cons_succ]
    refine take_list (i := 45) (v := ?_) rfl (by kernel_rfl) (by kernel_rfl) (by kernel_rfl) (fun _ _ _ h => h) (Or.inl ⟨by rfl, ?_⟩) (by assumption) ?_
    rotate_left
    · (intro w hSw; (try dsimp only at hSw); go_simp; try (with_reducible rfl))
    try simp only [Act.put, List.setIfInBounds_toArray, List.set_cons_zero, List.set_cons_succ]
    refine take_list (i := 46) (v := ?_) rfl (by kernel_rfl) (by kernel_rfl) (by kernel_rfl) (fun _ _ _ h => h) (Or.inl ⟨by rfl, ?_⟩) (by assumption) ?_
    rotate_left
    · (intro w hSw; (try dsimp only at hSw); go_simp; try (with_reducible rfl))
    try simp only [Act.put, List.setIfInBounds_toArray, List.set_cons_zero, List.set_cons_succ]
    refine take_list (i := 47) (v := ?_) rfl (by kernel_rfl) (by kernel_rfl) (by kernel_rfl) (fun _ _ _ h => h) (Or.inl ⟨by rfl, ?_⟩) (by assumption) ?_
    rotate_left
    · (intro w hSw; (try dsimp only at hSw); go_simp; try (with_reducible rfl))
    try simp only [Act.put, List.setIfInBounds_toArray, List.set_cons_zero, List.set_cons_succ]
    refine take_list (i := 50) (v := ?_) rfl (by kernel_rfl) (by kernel_rfl) (by kernel_rfl) (fun _ _ _ h => h) (Or.inl ⟨by rfl, ?_⟩) (by assumption) ?_
    rotate_left
    · (intro w hSw; (try dsimp only at hSw); go_simp; try (with_reducible rfl))
    try simp only [Act.put, List.setIfInBounds_toArray, List.set_cons_zero, List.set_cons_succ]
    refine take_list (i := 51) (v := ?_) rfl (by kernel_rfl) (by kernel_rfl) (by kernel_rfl) (fun _ _ _ h => h) (Or.inl ⟨by rfl, ?_⟩) (by assumption) ?_
    rotate_left
    · (intro w hSw; (try dsimp only at hSw); go_simp; try (with_reducible rfl))
    try simp only [Act.put, List.setIfInBounds_toArray, List.set_cons_zero, List.set_cons_succ]
    refine take_list (i := 52) (v := ?_) rfl (by kernel_rfl) (by kernel_rfl) (by kernel_rfl) (fun _ _ _ h => h) (Or.inl ⟨by rfl, ?_⟩) (by assumption) ?_
    rotate_left
    · (intro w hSw; (try dsimp only at hSw); go_simp; try (with_reducible rfl))
    try simp only [Act.put, List.setIfInBounds_toArray, List.set_cons_zero, List.set_cons_succ]
    refine wpAnyH_ready (rs := [48]) (by kernel_rfl) (by simp) ?_
    refine cons_list rfl (fun K hK => ?_) AllReadyH.nil
    go_simp
    (go_at_call 17; refine (L1.out _ (by assumption)).mono ?_; rintro e wn ⟨rfl, hbn⟩; (have hsn := since_trans (by assumption) hbn))
    refine hK.out _ _ ((by first | exact HX.out _ (by assumption) | exact HX.out _ (since_alloc (by assumption) _))) (fun hHeld8 => ?_)
    clear hK K hHeld7
    try simp only [Act.put, List.setIfInBounds_toArray, List.set_cons_zero, List.set_cons_succ]
    refine take_list (i := 49) (v := ?_) rfl (by kernel_rfl) (by kernel_rfl) (by kernel_rfl) (fun _ _ _ h => h) (Or.inl ⟨by rfl, ?_⟩) (by assumption) ?_
    rotate_left
    · (intro w hSw; (try dsimp only at hSw); go_simp; try (with_reducible rfl))
    try simp only [Act.put, List.setIfInBounds_toArray, List.set_cons_zero, List.set_cons_succ]
    refine take_list (i := 53) (v := ?_) rfl (by kernel_rfl) (by kernel_rfl) (by kernel_rfl) (fun _ _ _ h => h) (Or.inl ⟨by rfl, ?_⟩) (by assumption) ?_
    rotate_left
    · (intro w hSw; (try dsimp only at hSw); go_simp; try (with_reducible rfl))
    try simp only [Act.put, List.setIfInBounds_toArray, List.set_cons_zero, List.set_cons_succ]
    refine take_list (i := 54) (v := ?_) rfl (by kernel_rfl) (by kernel_rfl) (by kernel_rfl) (fun _ _ _ h => h) (Or.inl ⟨by rfl, ?_⟩) (by assumption) ?_
    rotate_left
    · (intro w hSw; (try dsimp only at hSw); go_simp; try (with_reducible rfl))
    try simp only [Act.put, List.setIfInBounds_toArray, List.set_cons_zero, List.set_cons_succ]
    refine take_list (i := 55) (v := ?_) rfl (by kernel_rfl) (by kernel_rfl) (by kernel_rfl) (fun _ _ _ h => h) (Or.inl ⟨by rfl, ?_⟩) (by assumption) ?_
    rotate_left
    · (intro w hSw; (try dsimp only at hSw); go_simp; try (with_reducible rfl))
    try simp only [Act.put, List.setIfInBounds_toArray, List.set_cons_zero, List.set_cons_succ]
    refine wpAnyH_done (by kernel_rfl) ?_ _
    clear hHeld8
    go_wp2
    go_ret
    exact ⟨rfl, since_trans BV.out hsn⟩
  · simp only at e; subst e
    have hc0 : 0 ≤ rc := by rcases hc0 with h | h; · exact h
                            · exact absurd rfl h
    clear hk0
    have C3 : Hid (∀ wy, Below wv.heap.size wv wy → Calls Tryd.prog 21 #[.agg #[.int .i64 1, .int .i64 rc, .slice A0 p.length d0], .agg #[.int .i64 0, .int .i64 0, .slice none 0 0]] wy fun e w' => e = .returned (.bool true) ∧ Below wy.heap.size wy w') := Lib.hid (fun wy hb =>
      (better_rt ⟨1, rc, p⟩ rtNone A0 none d0 0 wy (Z0.out.call hb).rt (Zn.out.call hb).rt).mono fun e w' ⟨h1, h2⟩ => ⟨by rw [h1, (betterB_iff _ _).2 (.inl (by simp [rankI, rtNone]))], h2⟩)
    have C4 : Hid (∀ wy, Below wv.heap.size wv wy → Calls Tryd.prog 21 #[.agg #[.int .i64 0, .int .i64 0, .slice none 0 0], .agg #[.int .i64 r1.kind, .int .i64 r1.cost, .slice A1 r1.path.length d1]] wy fun e w' => e = .returned (.bool false) ∧ Below wy.heap.size wy w') := Lib.hid (fun wy hb =>
      (better_rt rtNone r1 none A1 0 d1 wy (Zn.out.call hb).rt (Z1.out.call hb).rt).mono fun e w' ⟨h1, h2⟩ => ⟨by rw [h1, none_worst O1.out], h2⟩)
    have M0 : Hid (∀ wy, Below wv.heap.size wv wy → Calls Tryd.prog 23 #[.slice none 0 0] wy fun e w' => ∃ A c, e = .returned (.agg #[.int .i64 0, .int .i64 0, .slice A 0 c]) ∧ RtR w' w'.heap.size rtNone A c ∧ Below wy.heap.size wy w') := Lib.hid (fun wy hb =>
      (best_any [] none 0 wy ⟨Rd.nil _, by intro z hz; cases hz⟩ (by simp) (by intro z hz; cases hz)).mono fun e w' ⟨A, c, h1, h2, _, h3⟩ => ⟨A, c, h1, ⟨h2.rd, h2.2.1, h2.2.2.1⟩, h3⟩)
    have S0 : Hid (∀ wy, Below wv.heap.size wv wy → ∀ A c, RtR wy wy.heap.size rtNone A c → Calls Tryd.prog 19 #[.agg #[.int .i64 0, .int .i64 0, .slice A 0 c], .agg #[.int .i64 0, .int .i64 0, .slice none 0 0]] wy fun e w' => e = .returned (.bool true) ∧ Below wy.heap.size wy w') := Lib.hid (fun wy hb A c hr =>
      (same_rt rtNone rtNone A none c 0 wy hr (Zn.out.call hb).rt).mono fun e w' ⟨h1, h2⟩ => ⟨by rw [h1]; simp, h2⟩)
    have M1 : Hid (∀ wy, Below wv.heap.size wv wy → Calls Tryd.prog 23 #[.slice (some ⟨wy.heap.size, 0, none⟩) 3 3] (wy.alloc (.cells #[.int .i64 0, .int .i64 0, .slice none 0 0, .int .i64 1, .int .i64 rc, .slice A0 p.length d0, .int .i64 0, .int .i64 0, .slice none 0 0] 24)) fun e w' => ∃ A c, e = .returned (.agg #[.int .i64 1, .int .i64 rc, .slice A p.length c]) ∧ RtR w' w'.heap.size ⟨1, rc, p⟩ A c ∧ Below wy.heap.size wy w') := Lib.hid (fun wy hb => by
      have hb1 := since_alloc hb (.cells #[.int .i64 0, .int .i64 0, .slice none 0 0, .int .i64 1, .int .i64 rc, .slice A0 p.length d0, .int .i64 0, .int .i64 0, .slice none 0 0] 24)
      refine (best_any [(rtNone, (none, 0)), (⟨1, rc, p⟩, (A0, d0)), (rtNone, (none, 0))] _ _ _ ⟨Rd.new rfl rfl, ?_⟩ (by simp) (by intro z hz; simp at hz; rcases hz with rfl | rfl | rfl <;> (first | exact hp6 | simp [rtNone]))).mono ?_
      · intro z hz
        simp at hz
        rcases hz with rfl | rfl | rfl
        · exact (Zn.out.call hb1).rt
        · exact (Z0.out.call hb1).rt
        · exact (Zn.out.call hb1).rt
      · rintro e w' ⟨A, c, h1, h2, _, h3⟩
        have hbest : bestR [rtNone, ⟨1, rc, p⟩, rtNone] = ⟨1, rc, p⟩ := best_mid O0.out
        simp only [List.map_cons, List.map_nil, hbest] at h1 h2
        exact ⟨A, c, h1, ⟨h2.rd, h2.2.1, h2.2.2.1⟩, ((Below.refl _ _).alloc (Nat.le_refl _) _).trans (h3.mono (by simp))⟩)
    have S1 : Hid (∀ wy, Below wv.heap.size wv wy → ∀ A c, RtR wy wy.heap.size ⟨1, rc, p⟩ A c → Calls Tryd.prog 19 #[.agg #[.int .i64 1, .int .i64 rc, .slice A p.length c], .agg #[.int .i64 1, .int .i64 rc, .slice A0 p.length d0]] wy fun e w' => e = .returned (.bool true) ∧ Below wy.heap.size wy w') := Lib.hid (fun wy hb A c hr =>
      (same_rt ⟨1, rc, p⟩ ⟨1, rc, p⟩ A A0 c d0 wy hr (Z0.out.call hb).rt).mono fun e w' ⟨h1, h2⟩ => ⟨by rw [h1]; simp, h2⟩)
    have L1 : Hid (∀ wy, Below wv.heap.size wv wy → Calls Tryd.prog 17 #[.agg #[.int .i64 1, .int .i64 rc, .slice A0 p.length d0]] wy fun e w' => e = .returned (.int .i64 (rc)) ∧ Below wy.heap.size wy w') := Lib.hid (fun wy hb => length_rt ⟨1, rc, p⟩ A0 d0 wy)
    have q9 : decide (rc < 0) = false := by simp; exact hc0
    go_wp2_with fail
    refine wp_region_held_drew (S := (fun wx => (wx.cell? ⟨w2.heap.size, 0, none⟩ = some (.int .i64 1) ∧ wx.cell? ⟨w2.heap.size, 1, none⟩ = some (.int .i64 rc) ∧ wx.cell? ⟨w2.heap.size, 2, none⟩ = some (.slice A0 p.length d0)) ∧ (wx.cell? ⟨w3.heap.size, 0, none⟩ = some (.int .i64 r1.kind) ∧ wx.cell? ⟨w3.heap.size, 1, none⟩ = some (.int .i64 r1.cost) ∧ wx.cell? ⟨w3.heap.size, 2, none⟩ = some (.slice A1 r1.path.length d1)) ∧ (wx.cell? ⟨bv, 0, none⟩ = some (.int .i64 1) ∧ wx.cell? ⟨bv, 1, none⟩ = some (.int .i64 v) ∧ wx.cell? ⟨bv, 2, none⟩ = some (.slice none 0 0)) ∧ (wx.cell? ⟨bn, 0, none⟩ = some (.int .i64 0) ∧ wx.cell? ⟨bn, 1, none⟩ = some (.int .i64 0) ∧ wx.cell? ⟨bn, 2, none⟩ = some (.slice none 0 0)))) (by kernel_rfl) (HX.out _ hsd) (fun hHeld0 => ?_)
    refine take_list (i := 0) (v := ?_) rfl (by kernel_rfl) (by kernel_rfl) (by kernel_rfl) (fun _ _ _ h => h) (Or.inl ⟨by rfl, ?_⟩) (by assumption) ?_
    rotate_left
    · (intro w hSw; (try dsimp only at hSw); go_simp; try (with_reducible rfl))
    try simp only [Act.put, List.setIfInBounds_toArray, List.set_cons_zero, List.set_cons_succ]
    refine take_list (i := 1) (v := ?_) rfl (by kernel_rfl) (by kernel_rfl) (by kernel_rfl) (fun _ _ _ h => h) (Or.inl ⟨by rfl, ?_⟩) (by assumption) ?_
    rotate_left
    · (intro w hSw; (try dsimp only at hSw); go_simp; try (with_reducible rfl))
    try simp only [Act.put, List.setIfInBounds_toArray, List.set_cons_zero, List.set_cons_succ]
    refine take_list (i := 2) (v := ?_) rfl (by kernel_rfl) (by kernel_rfl) (by kernel_rfl) (fun _ _ _ h => h) (Or.inl ⟨by rfl, ?_⟩) (by assumption) ?_
    rotate_left
    · (intro w hSw; (try dsimp only at hSw); go_simp; try (with_reducible rfl))
    try simp only [Act.put, List.setIfInBounds_toArray, List.set_cons_zero, List.set_cons_succ]
    refine take_list (i := 3) (v := ?_) rfl (by kernel_rfl) (by kernel_rfl) (by kernel_rfl) (fun _ _ _ h => h) (Or.inl ⟨by rfl, ?_⟩) (by assumption) ?_
    rotate_left
    · (intro w hSw; (try dsimp only at hSw); go_simp; try (with_reducible rfl))
    try simp only [Act.put, List.setIfInBounds_toArray, List.set_cons_zero, List.set_cons_succ]
    refine take_list (i := 4) (v := ?_) rfl (by kernel_rfl) (by kernel_rfl) (by kernel_rfl) (fun _ _ _ h => h) (Or.inl ⟨by rfl, ?_⟩) (by assumption) ?_
    rotate_left
    · (intro w hSw; (try dsimp only at hSw); go_simp; try (with_reducible rfl))
    try simp only [Act.put, List.setIfInBounds_toArray, List.set_cons_zero, List.set_cons_succ]
    refine take_list (i := 5) (v := ?_) rfl (by kernel_rfl) (by kernel_rfl) (by kernel_rfl) (fun _ _ _ h => h) (Or.inl ⟨by rfl, ?_⟩) (by assumption) ?_
    rotate_left
    · (intro w hSw; (try dsimp only at hSw); go_simp; try (with_reducible rfl))
    try simp only [Act.put, List.setIfInBounds_toArray, List.set_cons_zero, List.set_cons_succ]
    refine take_list (i := 6) (v := undef) rfl (by kernel_rfl) (by kernel_rfl) (by kernel_rfl) (fun _ _ _ h => h) (Or.inr ⟨by rfl, rfl⟩) (by assumption) ?_
    try simp only [Act.put, List.setIfInBounds_toArray, List.set_cons_zero, List.set_cons_succ]
    refine take_list (i := 7) (v := undef) rfl (by kernel_rfl) (by kernel_rfl) (by kernel_rfl) (fun _ _ _ h => h) (Or.inr ⟨by rfl, rfl⟩) (by assumption) ?_
    try simp only [Act.put, List.setIfInBounds_toArray, List.set_cons_zero, List.set_cons_succ]
    refine take_list (i := 8) (v := undef) rfl (by kernel_rfl) (by kernel_rfl) (by kernel_rfl) (fun _ _ _ h => h) (Or.inr ⟨by rfl, rfl⟩) (by assumption) ?_
    try simp only [Act.put, List.setIfInBounds_toArray, List.set_cons_zero, List.set_cons_succ]
    refine take_list (i := 9) (v := undef) rfl (by kernel_rfl) (by kernel_rfl) (by kernel_rfl) (fun _ _ _ h => h) (Or.inr ⟨by rfl, rfl⟩) (by assumption) ?_
    try simp only [Act.put, List.setIfInBounds_toArray, List.set_cons_zero, List.set_cons_succ]
    refine take_list (i := 10) (v := undef) rfl (by kernel_rfl) (by kernel_rfl) (by kernel_rfl) (fun _ _ _ h => h) (Or.inr ⟨by rfl, rfl⟩) (by assumption) ?_
    try simp only [Act.put, List.setIfInBounds_toArray, List.set_cons_zero, List.set_cons_succ]
    refine take_list (i := 11) (v := undef) rfl (by kernel_rfl) (by kernel_rfl) (by kernel_rfl) (fun _ _ _ h => h) (Or.inr ⟨by rfl, rfl⟩) (by assumption) ?_
    try simp only [Act.put, List.setIfInBounds_toArray, List.set_cons_zero, List.set_cons_succ]
    refine take_list (i := 12) (v := undef) rfl (by kernel_rfl) (by kernel_rfl) (by kernel_rfl) (fun _ _ _ h => h) (Or.inr ⟨by rfl, rfl⟩) (by assumption) ?_
    try simp only [Act.put, List.setIfInBounds_toArray, List.set_cons_zero, List.set_cons_succ]
    refine take_list (i := 13) (v := undef) rfl (by kernel_rfl) (by kernel_rfl) (by kernel_rfl) (fun _ _ _ h => h) (Or.inr ⟨by rfl, rfl⟩) (by assumption) ?_
    try simp only [Act.put, List.setIfInBounds_toArray, List.set_cons_zero, List.set_cons_succ]
    refine take_list (i := 14) (v := undef) rfl (by kernel_rfl) (by kernel_rfl) (by kernel_rfl) (fun _ _ _ h => h) (Or.inr ⟨by rfl, rfl⟩) (by assumption) ?_
    try simp only [Act.put, List.setIfInBounds_toArray, List.set_cons_zero, List.set_cons_succ]
    refine take_list (i := 15) (v := ?_) rfl (by kernel_rfl) (by kernel_rfl) (by kernel_rfl) (fun _ _ _ h => h) (Or.inl ⟨by rfl, ?_⟩) (by assumption) ?_
    rotate_left
    · (intro w hSw; (try dsimp only at hSw); go_simp; try (with_reducible rfl))
    try simp only [Act.put, List.setIfInBounds_toArray, List.set_cons_zero, List.set_cons_succ]
    refine take_list (i := 16) (v := ?_) rfl (by kernel_rfl) (by kernel_rfl) (by kernel_rfl) (fun _ _ _ h => h) (Or.inl ⟨by rfl, ?_⟩) (by assumption) ?_
    rotate_left
    · (intro w hSw; (try dsimp only at hSw); go_simp; try (with_reducible rfl))
    try simp only [Act.put, List.setIfInBounds_toArray, List.set_cons_zero, List.set_cons_succ]
    refine take_list (i := 17) (v := ?_) rfl (by kernel_rfl) (by kernel_rfl) (by kernel_rfl) (fun _ _ _ h => h) (Or.inl ⟨by rfl, ?_⟩) (by assumption) ?_
    rotate_left
    · (intro w hSw; (try dsimp only at hSw); go_simp; try (with_reducible rfl))
    try simp only [Act.put, List.setIfInBounds_toArray, List.set_cons_zero, List.set_cons_succ]
    refine take_list (i := 18) (v := ?_) rfl (by kernel_rfl) (by kernel_rfl) (by kernel_rfl) (fun _ _ _ h => h) (Or.inl ⟨by rfl, ?_⟩) (by assumption) ?_
    rotate_left
    · (intro w hSw; (try dsimp only at hSw); go_simp; try (with_reducible rfl))
    try simp only [Act.put, List.setIfInBounds_toArray, List.set_cons_zero, List.set_cons_succ]
    refine take_list (i := 19) (v := ?_) rfl (by kernel_rfl) (by kernel_rfl) (by kernel_rfl) (fun _ _ _ h => h) (Or.inl ⟨by rfl, ?_⟩) (by assumption) ?_
    rotate_left
    · (intro w hSw; (try dsimp only at hSw); go_simp; try (with_reducible rfl))
    try simp only [Act.put, List.setIfInBounds_toArray, List.set_cons_zero, List.set_cons_succ]
    refine take_list (i := 21) (v := ?_) rfl (by kernel_rfl) (by kernel_rfl) (by kernel_rfl) (fun _ _ _ h => h) (Or.inl ⟨by rfl, ?_⟩) (by assumption) ?_
    rotate_left
    · (intro w hSw; (try dsimp only at hSw); go_simp; try (with_reducible rfl))
    try simp only [Act.put, List.setIfInBounds_toArray, List.set_cons_zero, List.set_cons_succ]
    refine take_list (i := 22) (v := ?_) rfl (by kernel_rfl) (by kernel_rfl) (by kernel_rfl) (fun _ _ _ h => h) (Or.inl ⟨by rfl, ?_⟩) (by assumption) ?_
    rotate_left
    · (intro w hSw; (try dsimp only at hSw); go_simp; try (with_reducible rfl))
    try simp only [Act.put, List.setIfInBounds_toArray, List.set_cons_zero, List.set_cons_succ]
    refine take_list (i := 23) (v := ?_) rfl (by kernel_rfl) (by kernel_rfl) (by kernel_rfl) (fun _ _ _ h => h) (Or.inl ⟨by rfl, ?_⟩) (by assumption) ?_
    rotate_left
    · (intro w hSw; (try dsimp only at hSw); go_simp; try (with_reducible rfl))
    try simp only [Act.put, List.setIfInBounds_toArray, List.set_cons_zero, List.set_cons_succ]
    refine wpAnyH_ready (rs := [20]) (by kernel_rfl) (by simp) ?_
    refine cons_list rfl (fun K hK => ?_) AllReadyH.nil
    go_simp
    (go_at_call 21; refine (C3.out _ (by assumption)).mono ?_; rintro e wn ⟨rfl, hbn⟩; (have hsn := since_trans (by assumption) hbn))
    refine hK.out _ _ ((by first | exact HX.out _ (by assumption) | exact HX.out _ (since_alloc (by assumption) _))) (fun hHeld1 => ?_)
    clear hK K hHeld0
    try simp only [Act.put, List.setIfInBounds_toArray, List.set_cons_zero, List.set_cons_succ]
    refine take_list (i := 24) (v := ?_) rfl (by kernel_rfl) (by kernel_rfl) (by kernel_rfl) (fun _ _ _ h => h) (Or.inl ⟨by rfl, ?_⟩) (by assumption) ?_
    rotate_left
    · (intro w hSw; (try dsimp only at hSw); go_simp; try (with_reducible rfl))
    try simp only [Act.put, List.setIfInBounds_toArray, List.set_cons_zero, List.set_cons_succ]
    refine take_list (i := 25) (v := ?_) rfl (by kernel_rfl) (by kernel_rfl) (by kernel_rfl) (fun _ _ _ h => h) (Or.inl ⟨by rfl, ?_⟩) (by assumption) ?_
    rotate_left
    · (intro w hSw; (try dsimp only at hSw); go_simp; try (with_reducible rfl))
    try simp only [Act.put, List.setIfInBounds_toArray, List.set_cons_zero, List.set_cons_succ]
    refine take_list (i := 26) (v := ?_) rfl (by kernel_rfl) (by kernel_rfl) (by kernel_rfl) (fun _ _ _ h => h) (Or.inl ⟨by rfl, ?_⟩) (by assumption) ?_
    rotate_left
    · (intro w hSw; (try dsimp only at hSw); go_simp; try (with_reducible rfl))
    try simp only [Act.put, List.setIfInBounds_toArray, List.set_cons_zero, List.set_cons_succ]
    refine take_list (i := 27) (v := ?_) rfl (by kernel_rfl) (by kernel_rfl) (by kernel_rfl) (fun _ _ _ h => h) (Or.inl ⟨by rfl, ?_⟩) (by assumption) ?_
    rotate_left
    · (intro w hSw; (try dsimp only at hSw); go_simp; try (with_reducible rfl))
    try simp only [Act.put, List.setIfInBounds_toArray, List.set_cons_zero, List.set_cons_succ]
    refine take_list (i := 28) (v := ?_) rfl (by kernel_rfl) (by kernel_rfl) (by kernel_rfl) (fun _ _ _ h => h) (Or.inl ⟨by rfl, ?_⟩) (by assumption) ?_
    rotate_left
    · (intro w hSw; (try dsimp only at hSw); go_simp; try (with_reducible rfl))
    try simp only [Act.put, List.setIfInBounds_toArray, List.set_cons_zero, List.set_cons_succ]
    refine wpAnyH_ready (rs := [29]) (by kernel_rfl) (by simp) ?_
    refine cons_list rfl (fun K hK => ?_) AllReadyH.nil
    go_simp
    (go_at_call 21; refine (C4.out _ (by assumption)).mono ?_; rintro e wn ⟨rfl, hbn⟩; (have hsn := since_trans (by assumption) hbn))
    refine hK.out _ _ ((by first | exact HX.out _ (by assumption) | exact HX.out _ (since_alloc (by assumption) _))) (fun hHeld2 => ?_)
    clear hK K hHeld1
    try simp only [Act.put, List.setIfInBounds_toArray, List.set_cons_zero, List.set_cons_succ]
    refine take_list (i := 30) (v := ?_) rfl (by kernel_rfl) (by kernel_rfl) (by kernel_rfl) (fun _ _ _ h => h) (Or.inl ⟨by rfl, ?_⟩) (by assumption) ?_
    rotate_left
    · (intro w hSw; (try dsimp only at hSw); go_simp; try (with_reducible rfl))
    try simp only [Act.put, List.setIfInBounds_toArray, List.set_cons_zero, List.set_cons_succ]
    refine take_list (i := 31) (v := ?_) rfl (by kernel_rfl) (by kernel_rfl) (by kernel_rfl) (fun _ _ _ h => h) (Or.inl ⟨by rfl, ?_⟩) (by assumption) ?_
    rotate_left
    · (intro w hSw; (try dsimp only at hSw); go_simp; try (with_reducible rfl))
    try simp only [Act.put, List.setIfInBounds_toArray, List.set_cons_zero, List.set_cons_succ]
    refine take_list (i := 32) (v := ?_) rfl (by kernel_rfl) (by kernel_rfl) (by kernel_rfl) (fun _ _ _ h => h) (Or.inl ⟨by rfl, ?_⟩) (by assumption) ?_
    rotate_left
    · (intro w hSw; (try dsimp only at hSw); go_simp; try (with_reducible rfl))
    try simp only [Act.put, List.setIfInBounds_toArray, List.set_cons_zero, List.set_cons_succ]
    refine take_list (i := 34) (v := ?_) rfl (by kernel_rfl) (by kernel_rfl) (by kernel_rfl) (fun _ _ _ h => h) (Or.inl ⟨by rfl, ?_⟩) (by assumption) ?_
    rotate_left
    · (intro w hSw; (try dsimp only at hSw); go_simp; try (with_reducible rfl))
    try simp only [Act.put, List.setIfInBounds_toArray, List.set_cons_zero, List.set_cons_succ]
    refine wpAnyH_ready (rs := [33]) (by kernel_rfl) (by simp) ?_
    refine cons_list rfl (fun K hK => ?_) AllReadyH.nil
    go_simp
    (go_at_call 23; refine (M0.out _ (by assumption)).mono ?_; rintro e wn ⟨An, cn, rfl, hrn, hbn⟩; (have hsn := since_trans (by assumption) hbn))
    refine hK.out _ _ ((by first | exact HX.out _ (by assumption) | exact HX.out _ (since_alloc (by assumption) _))) (fun hHeld3 => ?_)
    clear hK K hHeld2
    try simp only [Act.put, List.setIfInBounds_toArray, List.set_cons_zero, List.set_cons_succ]
    refine wpAnyH_ready (rs := [35]) (by kernel_rfl) (by simp) ?_
    refine cons_list rfl (fun K hK => ?_) AllReadyH.nil
    go_simp
    (go_at_call 19; refine (S0.out _ (by assumption) _ _ hrn).mono ?_; rintro e wn ⟨rfl, hbn⟩; (have hsn := since_trans (by assumption) hbn))
    refine hK.out _ _ ((by first | exact HX.out _ (by assumption) | exact HX.out _ (since_alloc (by assumption) _))) (fun hHeld4 => ?_)
    clear hK K hHeld3
    try simp only [Act.put, List.setIfInBounds_toArray, List.set_cons_zero, List.set_cons_succ]
    refine take_list (i := 36) (v := ?_) rfl (by kernel_rfl) (by kernel_rfl) (by kernel_rfl) (fun _ _ _ h => h) (Or.inl ⟨by rfl, ?_⟩) (by assumption) ?_
    rotate_left
    · (intro w hSw; (try dsimp only at hSw); go_simp; try (with_reducible rfl))
    try simp only [Act.put, List.setIfInBounds_toArray, List.set_cons_zero, List.set_cons_succ]
    refine take_list (i := 37) (v := ?_) rfl (by kernel_rfl) (by kernel_rfl) (by kernel_rfl) (fun _ _ _ h => h) (Or.inl ⟨by rfl, ?_⟩) (by assumption) ?_
    rotate_left
    · (intro w hSw; (try dsimp only at hSw); go_simp; try (with_reducible rfl))
    try simp only [Act.put, List.setIfInBounds_toArray, List.set_cons_zero, List.set_cons_succ]
    refine take_list (i := 38) (v := ?_) rfl (by kernel_rfl) (by kernel_rfl) (by kernel_rfl) (fun _ _ _ h => h) (Or.inl ⟨by rfl, ?_⟩) (by assumption) ?_
    rotate_left
    · (intro w hSw; (try dsimp only at hSw); go_simp; try (with_reducible rfl))
    try simp only [Act.put, List.setIfInBounds_toArray, List.set_cons_zero, List.set_cons_succ]
    refine take_list (i := 39) (v := ?_) rfl (by kernel_rfl) (by kernel_rfl) (by kernel_rfl) (fun _ _ _ h => h) (Or.inl ⟨by rfl, ?_⟩) (by assumption) ?_
    rotate_left
    · (intro w hSw; (try dsimp only at hSw); go_simp; try (with_reducible rfl))
    try simp only [Act.put, List.setIfInBounds_toArray, List.set_cons_zero, List.set_cons_succ]
    refine take_list (i := 40) (v := ?_) rfl (by kernel_rfl) (by kernel_rfl) (by kernel_rfl) (fun _ _ _ h => h) (Or.inl ⟨by rfl, ?_⟩) (by assumption) ?_
    rotate_left
    · (intro w hSw; (try dsimp only at hSw); go_simp; try (with_reducible rfl))
    try simp only [Act.put, List.setIfInBounds_toArray, List.set_cons_zero, List.set_cons_succ]
    refine take_list (i := 43) (v := ?_) rfl (by kernel_rfl) (by kernel_rfl) (by kernel_rfl) (fun _ _ _ h => h) (Or.inl ⟨by rfl, ?_⟩) (by assumption) ?_
    rotate_left
    · (intro w hSw; (try dsimp only at hSw); go_simp; try (with_reducible rfl))
    try simp only [Act.put, List.setIfInBounds_toArray, List.set_cons_zero, List.set_cons_succ]
    refine wpAnyH_ready (rs := [41]) (by kernel_rfl) (by simp) ?_
    refine cons_list rfl (fun K hK => ?_) AllReadyH.nil
    go_simp
    refine hK.out _ _ ((by first | exact HX.out _ (by assumption) | exact HX.out _ (since_alloc (by assumption) _))) (fun hHeld5 => ?_)
    clear hK K hHeld4
    try simp only [Act.put, List.setIfInBounds_toArray, List.set_cons_zero, List.set_cons_succ]
    refine wpAnyH_ready (rs := [42]) (by kernel_rfl) (by simp) ?_
    refine cons_list rfl (fun K hK => ?_) AllReadyH.nil
    go_simp
    (go_at_call 23; refine (M1.out _ (by assumption)).mono ?_; rintro e wn ⟨Am, cm, rfl, hrm, hbn⟩; (have hsn := since_trans (by assumption) hbn))
    refine hK.out _ _ ((by first | exact HX.out _ (by assumption) | exact HX.out _ (since_alloc (by assumption) _))) (fun hHeld6 => ?_)
    clear hK K hHeld5
    try simp only [Act.put, List.setIfInBounds_toArray, List.set_cons_zero, List.set_cons_succ]
    refine wpAnyH_ready (rs := [44]) (by kernel_rfl) (by simp) ?_
    refine cons_list rfl (fun K hK => ?_) AllReadyH.nil
    go_simp
    (go_at_call 19; refine (S1.out _ (by assumption) _ _ hrm).mono ?_; rintro e wn ⟨rfl, hbn⟩; (have hsn := since_trans (by assumption) hbn))
    refine hK.out _ _ ((by first | exact HX.out _ (by assumption) | exact HX.out _ (since_alloc (by assumption) _))) (fun hHeld7 => ?_)
    clear hK K hHeld6
    try simp only [Act.put, List.setIfInBounds_toArray, List.set_cons_zero, List.set_cons_succ]
    refine take_list (i := 45) (v := ?_) rfl (by kernel_rfl) (by kernel_rfl) (by kernel_rfl) (fun _ _ _ h => h) (Or.inl ⟨by rfl, ?_⟩) (by assumption) ?_
    rotate_left
    · (intro w hSw; (try dsimp only at hSw); go_simp; try (with_reducible rfl))
    try simp only [Act.put, List.setIfInBounds_toArray, List.set_cons_zero, List.set_cons_succ]
    refine take_list (i := 46) (v := ?_) rfl (by kernel_rfl) (by kernel_rfl) (by kernel_rfl) (fun _ _ _ h => h) (Or.inl ⟨by rfl, ?_⟩) (by assumption) ?_
    rotate_left
    · (intro w hSw; (try dsimp only at hSw); go_simp; try (with_reducible rfl))
    try simp only [Act.put, List.setIfInBounds_toArray, List.set_cons_zero, List.set_cons_succ]
    refine take_list (i := 47) (v := ?_) rfl (by kernel_rfl) (by kernel_rfl) (by kernel_rfl) (fun _ _ _ h => h) (Or.inl ⟨by rfl, ?_⟩) (by assumption) ?_
    rotate_left
    · (intro w hSw; (try dsimp only at hSw); go_simp; try (with_reducible rfl))
    try simp only [Act.put, List.setIfInBounds_toArray, List.set_cons_zero, List.set_cons_succ]
    refine take_list (i := 50) (v := ?_) rfl (by kernel_rfl) (by kernel_rfl) (by kernel_rfl) (fun _ _ _ h => h) (Or.inl ⟨by rfl, ?_⟩) (by assumption) ?_
    rotate_left
    · (intro w hSw; (try dsimp only at hSw); go_simp; try (with_reducible rfl))
    try simp only [Act.put, List.setIfInBounds_toArray, List.set_cons_zero, List.set_cons_succ]
    refine take_list (i := 51) (v := ?_) rfl (by kernel_rfl) (by kernel_rfl) (by kernel_rfl) (fun _ _ _ h => h) (Or.inl ⟨by rfl, ?_⟩) (by assumption) ?_
    rotate_left
    · (intro w hSw; (try dsimp only at hSw); go_simp; try (with_reducible rfl))
    try simp only [Act.put, List.setIfInBounds_toArray, List.set_cons_zero, List.set_cons_succ]
    refine take_list (i := 52) (v := ?_) rfl (by kernel_rfl) (by kernel_rfl) (by kernel_rfl) (fun _ _ _ h => h) (Or.inl ⟨by rfl, ?_⟩) (by assumption) ?_
    rotate_left
    · (intro w hSw; (try dsimp only at hSw); go_simp; try (with_reducible rfl))
    try simp only [Act.put, List.setIfInBounds_toArray, List.set_cons_zero, List.set_cons_succ]
    refine wpAnyH_ready (rs := [48]) (by kernel_rfl) (by simp) ?_
    refine cons_list rfl (fun K hK => ?_) AllReadyH.nil
    go_simp
    (go_at_call 17; refine (L1.out _ (by assumption)).mono ?_; rintro e wn ⟨rfl, hbn⟩; (have hsn := since_trans (by assumption) hbn))
    refine hK.out _ _ ((by first | exact HX.out _ (by assumption) | exact HX.out _ (since_alloc (by assumption) _))) (fun hHeld8 => ?_)
    clear hK K hHeld7
    try simp only [Act.put, List.setIfInBounds_toArray, List.set_cons_zero, List.set_cons_succ]
    refine take_list (i := 49) (v := ?_) rfl (by kernel_rfl) (by kernel_rfl) (by kernel_rfl) (fun _ _ _ h => h) (Or.inl ⟨by rfl, ?_⟩) (by assumption) ?_
    rotate_left
    · (intro w hSw; (try dsimp only at hSw); go_simp; try (with_reducible rfl))
    try simp only [Act.put, List.setIfInBounds_toArray, List.set_cons_zero, List.set_cons_succ]
    refine take_list (i := 53) (v := ?_) rfl (by kernel_rfl) (by kernel_rfl) (by kernel_rfl) (fun _ _ _ h => h) (Or.inl ⟨by rfl, ?_⟩) (by assumption) ?_
    rotate_left
    · (intro w hSw; (try dsimp only at hSw); go_simp; try (with_reducible rfl))
    try simp only [Act.put, List.setIfInBounds_toArray, List.set_cons_zero, List.set_cons_succ]
    refine take_list (i := 54) (v := ?_) rfl (by kernel_rfl) (by kernel_rfl) (by kernel_rfl) (fun _ _ _ h => h) (Or.inl ⟨by rfl, ?_⟩) (by assumption) ?_
    rotate_left
    · (intro w hSw; (try dsimp only at hSw); go_simp; try (with_reducible rfl))
    try simp only [Act.put, List.setIfInBounds_toArray, List.set_cons_zero, List.set_cons_succ]
    refine take_list (i := 55) (v := ?_) rfl (by kernel_rfl) (by kernel_rfl) (by kernel_rfl) (fun _ _ _ h => h) (Or.inl ⟨by rfl, ?_⟩) (by assumption) ?_
    rotate_left
    · (intro w hSw; (try dsimp only at hSw); go_simp; try (with_reducible rfl))
    try simp only [Act.put, List.setIfInBounds_toArray, List.set_cons_zero, List.set_cons_succ]
    refine wpAnyH_done (by kernel_rfl) ?_ _
    clear hHeld8
    go_wp2
    go_ret
    exact ⟨rfl, since_trans BV.out hsn⟩
  · simp only at e; subst e
    clear hk0 hc0
    have C1 : Hid (∀ wy, Below wv.heap.size wv wy → Calls Tryd.prog 21 #[.agg #[.int .i64 1, .int .i64 v, .slice none 0 0], .agg #[.int .i64 2, .int .i64 rc, .slice A0 p.length d0]] wy fun e w' => e = .returned (.bool true) ∧ Below wy.heap.size wy w') := Lib.hid (fun wy hb =>
      (better_rt ⟨1, v, []⟩ ⟨2, rc, p⟩ none A0 0 d0 wy (Zv.out.call hb).rt (Z0.out.call hb).rt).mono fun e w' ⟨h1, h2⟩ => ⟨by rw [h1, (betterB_iff _ _).2 (.inl (by simp [rankI, rtNone]))], h2⟩)
    have C2 : Hid (∀ wy, Below wv.heap.size wv wy → Calls Tryd.prog 21 #[.agg #[.int .i64 2, .int .i64 rc, .slice A0 p.length d0], .agg #[.int .i64 1, .int .i64 v, .slice none 0 0]] wy fun e w' => e = .returned (.bool false) ∧ Below wy.heap.size wy w') := Lib.hid (fun wy hb =>
      (better_rt ⟨2, rc, p⟩ ⟨1, v, []⟩ A0 none d0 0 wy (Z0.out.call hb).rt (Zv.out.call hb).rt).mono fun e w' ⟨h1, h2⟩ => ⟨by rw [h1, betterB_asymm ((betterB_iff _ _).2 (.inl (by simp [rankI, rtNone])))], h2⟩)
    have C3 : Hid (∀ wy, Below wv.heap.size wv wy → Calls Tryd.prog 21 #[.agg #[.int .i64 2, .int .i64 rc, .slice A0 p.length d0], .agg #[.int .i64 0, .int .i64 0, .slice none 0 0]] wy fun e w' => e = .returned (.bool true) ∧ Below wy.heap.size wy w') := Lib.hid (fun wy hb =>
      (better_rt ⟨2, rc, p⟩ rtNone A0 none d0 0 wy (Z0.out.call hb).rt (Zn.out.call hb).rt).mono fun e w' ⟨h1, h2⟩ => ⟨by rw [h1, (betterB_iff _ _).2 (.inl (by simp [rankI, rtNone]))], h2⟩)
    have C4 : Hid (∀ wy, Below wv.heap.size wv wy → Calls Tryd.prog 21 #[.agg #[.int .i64 0, .int .i64 0, .slice none 0 0], .agg #[.int .i64 r1.kind, .int .i64 r1.cost, .slice A1 r1.path.length d1]] wy fun e w' => e = .returned (.bool false) ∧ Below wy.heap.size wy w') := Lib.hid (fun wy hb =>
      (better_rt rtNone r1 none A1 0 d1 wy (Zn.out.call hb).rt (Z1.out.call hb).rt).mono fun e w' ⟨h1, h2⟩ => ⟨by rw [h1, none_worst O1.out], h2⟩)
    have M0 : Hid (∀ wy, Below wv.heap.size wv wy → Calls Tryd.prog 23 #[.slice none 0 0] wy fun e w' => ∃ A c, e = .returned (.agg #[.int .i64 0, .int .i64 0, .slice A 0 c]) ∧ RtR w' w'.heap.size rtNone A c ∧ Below wy.heap.size wy w') := Lib.hid (fun wy hb =>
      (best_any [] none 0 wy ⟨Rd.nil _, by intro z hz; cases hz⟩ (by simp) (by intro z hz; cases hz)).mono fun e w' ⟨A, c, h1, h2, _, h3⟩ => ⟨A, c, h1, ⟨h2.rd, h2.2.1, h2.2.2.1⟩, h3⟩)
    have S0 : Hid (∀ wy, Below wv.heap.size wv wy → ∀ A c, RtR wy wy.heap.size rtNone A c → Calls Tryd.prog 19 #[.agg #[.int .i64 0, .int .i64 0, .slice A 0 c], .agg #[.int .i64 0, .int .i64 0, .slice none 0 0]] wy fun e w' => e = .returned (.bool true) ∧ Below wy.heap.size wy w') := Lib.hid (fun wy hb A c hr =>
      (same_rt rtNone rtNone A none c 0 wy hr (Zn.out.call hb).rt).mono fun e w' ⟨h1, h2⟩ => ⟨by rw [h1]; simp, h2⟩)
    have M1 : Hid (∀ wy, Below wv.heap.size wv wy → Calls Tryd.prog 23 #[.slice (some ⟨wy.heap.size, 0, none⟩) 3 3] (wy.alloc (.cells #[.int .i64 0, .int .i64 0, .slice none 0 0, .int .i64 2, .int .i64 rc, .slice A0 p.length d0, .int .i64 0, .int .i64 0, .slice none 0 0] 24)) fun e w' => ∃ A c, e = .returned (.agg #[.int .i64 2, .int .i64 rc, .slice A p.length c]) ∧ RtR w' w'.heap.size ⟨2, rc, p⟩ A c ∧ Below wy.heap.size wy w') := Lib.hid (fun wy hb => by
      have hb1 := since_alloc hb (.cells #[.int .i64 0, .int .i64 0, .slice none 0 0, .int .i64 2, .int .i64 rc, .slice A0 p.length d0, .int .i64 0, .int .i64 0, .slice none 0 0] 24)
      refine (best_any [(rtNone, (none, 0)), (⟨2, rc, p⟩, (A0, d0)), (rtNone, (none, 0))] _ _ _ ⟨Rd.new rfl rfl, ?_⟩ (by simp) (by intro z hz; simp at hz; rcases hz with rfl | rfl | rfl <;> (first | exact hp6 | simp [rtNone]))).mono ?_
      · intro z hz
        simp at hz
        rcases hz with rfl | rfl | rfl
        · exact (Zn.out.call hb1).rt
        · exact (Z0.out.call hb1).rt
        · exact (Zn.out.call hb1).rt
      · rintro e w' ⟨A, c, h1, h2, _, h3⟩
        have hbest : bestR [rtNone, ⟨2, rc, p⟩, rtNone] = ⟨2, rc, p⟩ := best_mid O0.out
        simp only [List.map_cons, List.map_nil, hbest] at h1 h2
        exact ⟨A, c, h1, ⟨h2.rd, h2.2.1, h2.2.2.1⟩, ((Below.refl _ _).alloc (Nat.le_refl _) _).trans (h3.mono (by simp))⟩)
    have S1 : Hid (∀ wy, Below wv.heap.size wv wy → ∀ A c, RtR wy wy.heap.size ⟨2, rc, p⟩ A c → Calls Tryd.prog 19 #[.agg #[.int .i64 2, .int .i64 rc, .slice A p.length c], .agg #[.int .i64 2, .int .i64 rc, .slice A0 p.length d0]] wy fun e w' => e = .returned (.bool true) ∧ Below wy.heap.size wy w') := Lib.hid (fun wy hb A c hr =>
      (same_rt ⟨2, rc, p⟩ ⟨2, rc, p⟩ A A0 c d0 wy hr (Z0.out.call hb).rt).mono fun e w' ⟨h1, h2⟩ => ⟨by rw [h1]; simp, h2⟩)
    have L1 : Hid (∀ wy, Below wv.heap.size wv wy → Calls Tryd.prog 17 #[.agg #[.int .i64 2, .int .i64 rc, .slice A0 p.length d0]] wy fun e w' => e = .returned (.int .i64 (p.length)) ∧ Below wy.heap.size wy w') := Lib.hid (fun wy hb => length_rt ⟨2, rc, p⟩ A0 d0 wy)
    have q9 : decide ((p.length : Int) < 0) = false := by simp
    go_wp2_with fail
    refine wp_region_held_drew (S := (fun wx => (wx.cell? ⟨w2.heap.size, 0, none⟩ = some (.int .i64 2) ∧ wx.cell? ⟨w2.heap.size, 1, none⟩ = some (.int .i64 rc) ∧ wx.cell? ⟨w2.heap.size, 2, none⟩ = some (.slice A0 p.length d0)) ∧ (wx.cell? ⟨w3.heap.size, 0, none⟩ = some (.int .i64 r1.kind) ∧ wx.cell? ⟨w3.heap.size, 1, none⟩ = some (.int .i64 r1.cost) ∧ wx.cell? ⟨w3.heap.size, 2, none⟩ = some (.slice A1 r1.path.length d1)) ∧ (wx.cell? ⟨bv, 0, none⟩ = some (.int .i64 1) ∧ wx.cell? ⟨bv, 1, none⟩ = some (.int .i64 v) ∧ wx.cell? ⟨bv, 2, none⟩ = some (.slice none 0 0)) ∧ (wx.cell? ⟨bn, 0, none⟩ = some (.int .i64 0) ∧ wx.cell? ⟨bn, 1, none⟩ = some (.int .i64 0) ∧ wx.cell? ⟨bn, 2, none⟩ = some (.slice none 0 0)))) (by kernel_rfl) (HX.out _ hsd) (fun hHeld0 => ?_)
    refine take_list (i := 0) (v := ?_) rfl (by kernel_rfl) (by kernel_rfl) (by kernel_rfl) (fun _ _ _ h => h) (Or.inl ⟨by rfl, ?_⟩) (by assumption) ?_
    rotate_left
    · (intro w hSw; (try dsimp only at hSw); go_simp; try (with_reducible rfl))
    try simp only [Act.put, List.setIfInBounds_toArray, List.set_cons_zero, List.set_cons_succ]
    refine take_list (i := 1) (v := ?_) rfl (by kernel_rfl) (by kernel_rfl) (by kernel_rfl) (fun _ _ _ h => h) (Or.inl ⟨by rfl, ?_⟩) (by assumption) ?_
    rotate_left
    · (intro w hSw; (try dsimp only at hSw); go_simp; try (with_reducible rfl))
    try simp only [Act.put, List.setIfInBounds_toArray, List.set_cons_zero, List.set_cons_succ]
    refine take_list (i := 2) (v := ?_) rfl (by kernel_rfl) (by kernel_rfl) (by kernel_rfl) (fun _ _ _ h => h) (Or.inl ⟨by rfl, ?_⟩) (by assumption) ?_
    rotate_left
    · (intro w hSw; (try dsimp only at hSw); go_simp; try (with_reducible rfl))
    try simp only [Act.put, List.setIfInBounds_toArray, List.set_cons_zero, List.set_cons_succ]
    refine take_list (i := 3) (v := ?_) rfl (by kernel_rfl) (by kernel_rfl) (by kernel_rfl) (fun _ _ _ h => h) (Or.inl ⟨by rfl, ?_⟩) (by assumption) ?_
    rotate_left
    · (intro w hSw; (try dsimp only at hSw); go_simp; try (with_reducible rfl))
    try simp only [Act.put, List.setIfInBounds_toArray, List.set_cons_zero, List.set_cons_succ]
    refine take_list (i := 4) (v := ?_) rfl (by kernel_rfl) (by kernel_rfl) (by kernel_rfl) (fun _ _ _ h => h) (Or.inl ⟨by rfl, ?_⟩) (by assumption) ?_
    rotate_left
    · (intro w hSw; (try dsimp only at hSw); go_simp; try (with_reducible rfl))
    try simp only [Act.put, List.setIfInBounds_toArray, List.set_cons_zero, List.set_cons_succ]
    refine take_list (i := 5) (v := ?_) rfl (by kernel_rfl) (by kernel_rfl) (by kernel_rfl) (fun _ _ _ h => h) (Or.inl ⟨by rfl, ?_⟩) (by assumption) ?_
    rotate_left
    · (intro w hSw; (try dsimp only at hSw); go_simp; try (with_reducible rfl))
    try simp only [Act.put, List.setIfInBounds_toArray, List.set_cons_zero, List.set_cons_succ]
    refine take_list (i := 6) (v := ?_) rfl (by kernel_rfl) (by kernel_rfl) (by kernel_rfl) (fun _ _ _ h => h) (Or.inl ⟨by rfl, ?_⟩) (by assumption) ?_
    rotate_left
    · (intro w hSw; (try dsimp only at hSw); go_simp; try (with_reducible rfl))
    try simp only [Act.put, List.setIfInBounds_toArray, List.set_cons_zero, List.set_cons_succ]
    refine take_list (i := 7) (v := ?_) rfl (by kernel_rfl) (by kernel_rfl) (by kernel_rfl) (fun _ _ _ h => h) (Or.inl ⟨by rfl, ?_⟩) (by assumption) ?_
    rotate_left
    · (intro w hSw; (try dsimp only at hSw); go_simp; try (with_reducible rfl))
    try simp only [Act.put, List.setIfInBounds_toArray, List.set_cons_zero, List.set_cons_succ]
    refine wpAnyH_ready (rs := [8]) (by kernel_rfl) (by simp) ?_
    refine cons_list rfl (fun K hK => ?_) AllReadyH.nil
    go_simp
    (go_at_call 21; refine (C1.out _ (by assumption)).mono ?_; rintro e wn ⟨rfl, hbn⟩; (have hsn := since_trans (by assumption) hbn))
    refine hK.out _ _ ((by first | exact HX.out _ (by assumption) | exact HX.out _ (since_alloc (by assumption) _))) (fun hHeld1 => ?_)
    clear hK K hHeld0
    try simp only [Act.put, List.setIfInBounds_toArray, List.set_cons_zero, List.set_cons_succ]
    refine take_list (i := 9) (v := ?_) rfl (by kernel_rfl) (by kernel_rfl) (by kernel_rfl) (fun _ _ _ h => h) (Or.inl ⟨by rfl, ?_⟩) (by assumption) ?_
    rotate_left
    · (intro w hSw; (try dsimp only at hSw); go_simp; try (with_reducible rfl))
    try simp only [Act.put, List.setIfInBounds_toArray, List.set_cons_zero, List.set_cons_succ]
    refine take_list (i := 10) (v := ?_) rfl (by kernel_rfl) (by kernel_rfl) (by kernel_rfl) (fun _ _ _ h => h) (Or.inl ⟨by rfl, ?_⟩) (by assumption) ?_
    rotate_left
    · (intro w hSw; (try dsimp only at hSw); go_simp; try (with_reducible rfl))
    try simp only [Act.put, List.setIfInBounds_toArray, List.set_cons_zero, List.set_cons_succ]
    refine take_list (i := 11) (v := ?_) rfl (by kernel_rfl) (by kernel_rfl) (by kernel_rfl) (fun _ _ _ h => h) (Or.inl ⟨by rfl, ?_⟩) (by assumption) ?_
    rotate_left
    · (intro w hSw; (try dsimp only at hSw); go_simp; try (with_reducible rfl))
    try simp only [Act.put, List.setIfInBounds_toArray, List.set_cons_zero, List.set_cons_succ]
    refine wpAnyH_ready (rs := [12]) (by kernel_rfl) (by simp) ?_
    refine cons_list rfl (fun K hK => ?_) AllReadyH.nil
    go_simp
    (go_at_call 21; refine (C2.out _ (by assumption)).mono ?_; rintro e wn ⟨rfl, hbn⟩; (have hsn := since_trans (by assumption) hbn))
    refine hK.out _ _ ((by first | exact HX.out _ (by assumption) | exact HX.out _ (since_alloc (by assumption) _))) (fun hHeld2 => ?_)
    clear hK K hHeld1
    try simp only [Act.put, List.setIfInBounds_toArray, List.set_cons_zero, List.set_cons_succ]
    refine take_list (i := 13) (v := ?_) rfl (by kernel_rfl) (by kernel_rfl) (by kernel_rfl) (fun _ _ _ h => h) (Or.inl ⟨by rfl, ?_⟩) (by assumption) ?_
    rotate_left
    · (intro w hSw; (try dsimp only at hSw); go_simp; try (with_reducible rfl))
    try simp only [Act.put, List.setIfInBounds_toArray, List.set_cons_zero, List.set_cons_succ]
    refine take_list (i := 14) (v := ?_) rfl (by kernel_rfl) (by kernel_rfl) (by kernel_rfl) (fun _ _ _ h => h) (Or.inl ⟨by rfl, ?_⟩) (by assumption) ?_
    rotate_left
    · (intro w hSw; (try dsimp only at hSw); go_simp; try (with_reducible rfl))
    try simp only [Act.put, List.setIfInBounds_toArray, List.set_cons_zero, List.set_cons_succ]
    refine take_list (i := 15) (v := ?_) rfl (by kernel_rfl) (by kernel_rfl) (by kernel_rfl) (fun _ _ _ h => h) (Or.inl ⟨by rfl, ?_⟩) (by assumption) ?_
    rotate_left
    · (intro w hSw; (try dsimp only at hSw); go_simp; try (with_reducible rfl))
    try simp only [Act.put, List.setIfInBounds_toArray, List.set_cons_zero, List.set_cons_succ]
    refine take_list (i := 16) (v := ?_) rfl (by kernel_rfl) (by kernel_rfl) (by kernel_rfl) (fun _ _ _ h => h) (Or.inl ⟨by rfl, ?_⟩) (by assumption) ?_
    rotate_left
    · (intro w hSw; (try dsimp only at hSw); go_simp; try (with_reducible rfl))
    try simp only [Act.put, List.setIfInBounds_toArray, List.set_cons_zero, List.set_cons_succ]
    refine take_list (i := 17) (v := ?_) rfl (by kernel_rfl) (by kernel_rfl) (by kernel_rfl) (fun _ _ _ h => h) (Or.inl ⟨by rfl, ?_⟩) (by assumption) ?_
    rotate_left
    · (intro w hSw; (try dsimp only at hSw); go_simp; try (with_reducible rfl))
    try simp only [Act.put, List.setIfInBounds_toArray, List.set_cons_zero, List.set_cons_succ]
    refine take_list (i := 18) (v := ?_) rfl (by kernel_rfl) (by kernel_rfl) (by kernel_rfl) (fun _ _ _ h => h) (Or.inl ⟨by rfl, ?_⟩) (by assumption) ?_
    rotate_left
    · (intro w hSw; (try dsimp only at hSw); go_simp; try (with_reducible rfl))
    try simp only [Act.put, List.setIfInBounds_toArray, List.set_cons_zero, List.set_cons_succ]
    refine take_list (i := 19) (v := ?_) rfl (by kernel_rfl) (by kernel_rfl) (by kernel_rfl) (fun _ _ _ h => h) (Or.inl ⟨by rfl, ?_⟩) (by assumption) ?_
    rotate_left
    · (intro w hSw; (try dsimp only at hSw); go_simp; try (with_reducible rfl))
    try simp only [Act.put, List.setIfInBounds_toArray, List.set_cons_zero, List.set_cons_succ]
    refine take_list (i := 21) (v := ?_) rfl (by kernel_rfl) (by kernel_rfl) (by kernel_rfl) (fun _ _ _ h => h) (Or.inl ⟨by rfl, ?_⟩) (by assumption) ?_
    rotate_left
    · (intro w hSw; (try dsimp only at hSw); go_simp; try (with_reducible rfl))
    try simp only [Act.put, List.setIfInBounds_toArray, List.set_cons_zero, List.set_cons_succ]
    refine take_list (i := 22) (v := ?_) rfl (by kernel_rfl) (by kernel_rfl) (by kernel_rfl) (fun _ _ _ h => h) (Or.inl ⟨by rfl, ?_⟩) (by assumption) ?_
    rotate_left
    · (intro w hSw; (try dsimp only at hSw); go_simp; try (with_reducible rfl))
    try simp only [Act.put, List.setIfInBounds_toArray, List.set_cons_zero, List.set_cons_succ]
    refine take_list (i := 23) (v := ?_) rfl (by kernel_rfl) (by kernel_rfl) (by kernel_rfl) (fun _ _ _ h => h) (Or.inl ⟨by rfl, ?_⟩) (by assumption) ?_
    rotate_left
    · (intro w hSw; (try dsimp only at hSw); go_simp; try (with_reducible rfl))
    try simp only [Act.put, List.setIfInBounds_toArray, List.set_cons_zero, List.set_cons_succ]
    refine wpAnyH_ready (rs := [20]) (by kernel_rfl) (by simp) ?_
    refine cons_list rfl (fun K hK => ?_) AllReadyH.nil
    go_simp
    (go_at_call 21; refine (C3.out _ (by assumption)).mono ?_; rintro e wn ⟨rfl, hbn⟩; (have hsn := since_trans (by assumption) hbn))
    refine hK.out _ _ ((by first | exact HX.out _ (by assumption) | exact HX.out _ (since_alloc (by assumption) _))) (fun hHeld3 => ?_)
    clear hK K hHeld2
    try simp only [Act.put, List.setIfInBounds_toArray, List.set_cons_zero, List.set_cons_succ]
    refine take_list (i := 24) (v := ?_) rfl (by kernel_rfl) (by kernel_rfl) (by kernel_rfl) (fun _ _ _ h => h) (Or.inl ⟨by rfl, ?_⟩) (by assumption) ?_
    rotate_left
    · (intro w hSw; (try dsimp only at hSw); go_simp; try (with_reducible rfl))
    try simp only [Act.put, List.setIfInBounds_toArray, List.set_cons_zero, List.set_cons_succ]
    refine take_list (i := 25) (v := ?_) rfl (by kernel_rfl) (by kernel_rfl) (by kernel_rfl) (fun _ _ _ h => h) (Or.inl ⟨by rfl, ?_⟩) (by assumption) ?_
    rotate_left
    · (intro w hSw; (try dsimp only at hSw); go_simp; try (with_reducible rfl))
    try simp only [Act.put, List.setIfInBounds_toArray, List.set_cons_zero, List.set_cons_succ]
    refine take_list (i := 26) (v := ?_) rfl (by kernel_rfl) (by kernel_rfl) (by kernel_rfl) (fun _ _ _ h => h) (Or.inl ⟨by rfl, ?_⟩) (by assumption) ?_
    rotate_left
    · (intro w hSw; (try dsimp only at hSw); go_simp; try (with_reducible rfl))
    try simp only [Act.put, List.setIfInBounds_toArray, List.set_cons_zero, List.set_cons_succ]
    refine take_list (i := 27) (v := ?_) rfl (by kernel_rfl) (by kernel_rfl) (by kernel_rfl) (fun _ _ _ h => h) (Or.inl ⟨by rfl, ?_⟩) (by assumption) ?_
    rotate_left
    · (intro w hSw; (try dsimp only at hSw); go_simp; try (with_reducible rfl))
    try simp only [Act.put, List.setIfInBounds_toArray, List.set_cons_zero, List.set_cons_succ]
    refine take_list (i := 28) (v := ?_) rfl (by kernel_rfl) (by kernel_rfl) (by kernel_rfl) (fun _ _ _ h => h) (Or.inl ⟨by rfl, ?_⟩) (by assumption) ?_
    rotate_left
    · (intro w hSw; (try dsimp only at hSw); go_simp; try (with_reducible rfl))
    try simp only [Act.put, List.setIfInBounds_toArray, List.set_cons_zero, List.set_cons_succ]
    refine wpAnyH_ready (rs := [29]) (by kernel_rfl) (by simp) ?_
    refine cons_list rfl (fun K hK => ?_) AllReadyH.nil
    go_simp
    (go_at_call 21; refine (C4.out _ (by assumption)).mono ?_; rintro e wn ⟨rfl, hbn⟩; (have hsn := since_trans (by assumption) hbn))
    refine hK.out _ _ ((by first | exact HX.out _ (by assumption) | exact HX.out _ (since_alloc (by assumption) _))) (fun hHeld4 => ?_)
    clear hK K hHeld3
    try simp only [Act.put, List.setIfInBounds_toArray, List.set_cons_zero, List.set_cons_succ]
    refine take_list (i := 30) (v := ?_) rfl (by kernel_rfl) (by kernel_rfl) (by kernel_rfl) (fun _ _ _ h => h) (Or.inl ⟨by rfl, ?_⟩) (by assumption) ?_
    rotate_left
    · (intro w hSw; (try dsimp only at hSw); go_simp; try (with_reducible rfl))
    try simp only [Act.put, List.setIfInBounds_toArray, List.set_cons_zero, List.set_cons_succ]
    refine take_list (i := 31) (v := ?_) rfl (by kernel_rfl) (by kernel_rfl) (by kernel_rfl) (fun _ _ _ h => h) (Or.inl ⟨by rfl, ?_⟩) (by assumption) ?_
    rotate_left
    · (intro w hSw; (try dsimp only at hSw); go_simp; try (with_reducible rfl))
    try simp only [Act.put, List.setIfInBounds_toArray, List.set_cons_zero, List.set_cons_succ]
    refine take_list (i := 32) (v := ?_) rfl (by kernel_rfl) (by kernel_rfl) (by kernel_rfl) (fun _ _ _ h => h) (Or.inl ⟨by rfl, ?_⟩) (by assumption) ?_
    rotate_left
    · (intro w hSw; (try dsimp only at hSw); go_simp; try (with_reducible rfl))
    try simp only [Act.put, List.setIfInBounds_toArray, List.set_cons_zero, List.set_cons_succ]
    refine take_list (i := 34) (v := ?_) rfl (by kernel_rfl) (by kernel_rfl) (by kernel_rfl) (fun _ _ _ h => h) (Or.inl ⟨by rfl, ?_⟩) (by assumption) ?_
    rotate_left
    · (intro w hSw; (try dsimp only at hSw); go_simp; try (with_reducible rfl))
    try simp only [Act.put, List.setIfInBounds_toArray, List.set_cons_zero, List.set_cons_succ]
    refine wpAnyH_ready (rs := [33]) (by kernel_rfl) (by simp) ?_
    refine cons_list rfl (fun K hK => ?_) AllReadyH.nil
    go_simp
    (go_at_call 23; refine (M0.out _ (by assumption)).mono ?_; rintro e wn ⟨An, cn, rfl, hrn, hbn⟩; (have hsn := since_trans (by assumption) hbn))
    refine hK.out _ _ ((by first | exact HX.out _ (by assumption) | exact HX.out _ (since_alloc (by assumption) _))) (fun hHeld5 => ?_)
    clear hK K hHeld4
    try simp only [Act.put, List.setIfInBounds_toArray, List.set_cons_zero, List.set_cons_succ]
    refine wpAnyH_ready (rs := [35]) (by kernel_rfl) (by simp) ?_
    refine cons_list rfl (fun K hK => ?_) AllReadyH.nil
    go_simp
    (go_at_call 19; refine (S0.out _ (by assumption) _ _ hrn).mono ?_; rintro e wn ⟨rfl, hbn⟩; (have hsn := since_trans (by assumption) hbn))
    refine hK.out _ _ ((by first | exact HX.out _ (by assumption) | exact HX.out _ (since_alloc (by assumption) _))) (fun hHeld6 => ?_)
    clear hK K hHeld5
    try simp only [Act.put, List.setIfInBounds_toArray, List.set_cons_zero, List.set_cons_succ]
    refine take_list (i := 36) (v := ?_) rfl (by kernel_rfl) (by kernel_rfl) (by kernel_rfl) (fun _ _ _ h => h) (Or.inl ⟨by rfl, ?_⟩) (by assumption) ?_
    rotate_left
    · (intro w hSw; (try dsimp only at hSw); go_simp; try (with_reducible rfl))
    try simp only [Act.put, List.setIfInBounds_toArray, List.set_cons_zero, List.set_cons_succ]
    refine take_list (i := 37) (v := ?_) rfl (by kernel_rfl) (by kernel_rfl) (by kernel_rfl) (fun _ _ _ h => h) (Or.inl ⟨by rfl, ?_⟩) (by assumption) ?_
    rotate_left
    · (intro w hSw; (try dsimp only at hSw); go_simp; try (with_reducible rfl))
    try simp only [Act.put, List.setIfInBounds_toArray, List.set_cons_zero, List.set_cons_succ]
    refine take_list (i := 38) (v := ?_) rfl (by kernel_rfl) (by kernel_rfl) (by kernel_rfl) (fun _ _ _ h => h) (Or.inl ⟨by rfl, ?_⟩) (by assumption) ?_
    rotate_left
    · (intro w hSw; (try dsimp only at hSw); go_simp; try (with_reducible rfl))
    try simp only [Act.put, List.setIfInBounds_toArray, List.set_cons_zero, List.set_cons_succ]
    refine take_list (i := 39) (v := ?_) rfl (by kernel_rfl) (by kernel_rfl) (by kernel_rfl) (fun _ _ _ h => h) (Or.inl ⟨by rfl, ?_⟩) (by assumption) ?_
    rotate_left
    · (intro w hSw; (try dsimp only at hSw); go_simp; try (with_reducible rfl))
    try simp only [Act.put, List.setIfInBounds_toArray, List.set_cons_zero, List.set_cons_succ]
    refine take_list (i := 40) (v := ?_) rfl (by kernel_rfl) (by kernel_rfl) (by kernel_rfl) (fun _ _ _ h => h) (Or.inl ⟨by rfl, ?_⟩) (by assumption) ?_
    rotate_left
    · (intro w hSw; (try dsimp only at hSw); go_simp; try (with_reducible rfl))
    try simp only [Act.put, List.setIfInBounds_toArray, List.set_cons_zero, List.set_cons_succ]
    refine take_list (i := 43) (v := ?_) rfl (by kernel_rfl) (by kernel_rfl) (by kernel_rfl) (fun _ _ _ h => h) (Or.inl ⟨by rfl, ?_⟩) (by assumption) ?_
    rotate_left
    · (intro w hSw; (try dsimp only at hSw); go_simp; try (with_reducible rfl))
    try simp only [Act.put, List.setIfInBounds_toArray, List.set_cons_zero, List.set_cons_succ]
    refine wpAnyH_ready (rs := [41]) (by kernel_rfl) (by simp) ?_
    refine cons_list rfl (fun K hK => ?_) AllReadyH.nil
    go_simp
    refine hK.out _ _ ((by first | exact HX.out _ (by assumption) | exact HX.out _ (since_alloc (by assumption) _))) (fun hHeld7 => ?_)
    clear hK K hHeld6
    try simp only [Act.put, List.setIfInBounds_toArray, List.set_cons_zero, List.set_cons_succ]
    refine wpAnyH_ready (rs := [42]) (by kernel_rfl) (by simp) ?_
    refine cons_list rfl (fun K hK => ?_) AllReadyH.nil
    go_simp
    (go_at_call 23; refine (M1.out _ (by assumption)).mono ?_; rintro e wn ⟨Am, cm, rfl, hrm, hbn⟩; (have hsn := since_trans (by assumption) hbn))
    refine hK.out _ _ ((by first | exact HX.out _ (by assumption) | exact HX.out _ (since_alloc (by assumption) _))) (fun hHeld8 => ?_)
    clear hK K hHeld7
    try simp only [Act.put, List.setIfInBounds_toArray, List.set_cons_zero, List.set_cons_succ]
    refine wpAnyH_ready (rs := [44]) (by kernel_rfl) (by simp) ?_
    refine cons_list rfl (fun K hK => ?_) AllReadyH.nil
    go_simp
    (go_at_call 19; refine (S1.out _ (by assumption) _ _ hrm).mono ?_; rintro e wn ⟨rfl, hbn⟩; (have hsn := since_trans (by assumption) hbn))
    refine hK.out _ _ ((by first | exact HX.out _ (by assumption) | exact HX.out _ (since_alloc (by assumption) _))) (fun hHeld9 => ?_)
    clear hK K hHeld8
    try simp only [Act.put, List.setIfInBounds_toArray, List.set_cons_zero, List.set_cons_succ]
    refine take_list (i := 45) (v := ?_) rfl (by kernel_rfl) (by kernel_rfl) (by kernel_rfl) (fun _ _ _ h => h) (Or.inl ⟨by rfl, ?_⟩) (by assumption) ?_
    rotate_left
    · (intro w hSw; (try dsimp only at hSw); go_simp; try (with_reducible rfl))
    try simp only [Act.put, List.setIfInBounds_toArray, List.set_cons_zero, List.set_cons_succ]
    refine take_list (i := 46) (v := ?_) rfl (by kernel_rfl) (by kernel_rfl) (by kernel_rfl) (fun _ _ _ h => h) (Or.inl ⟨by rfl, ?_⟩) (by assumption) ?_
    rotate_left
    · (intro w hSw; (try dsimp only at hSw); go_simp; try (with_reducible rfl))
    try simp only [Act.put, List.setIfInBounds_toArray, List.set_cons_zero, List.set_cons_succ]
    refine take_list (i := 47) (v := ?_) rfl (by kernel_rfl) (by kernel_rfl) (by kernel_rfl) (fun _ _ _ h => h) (Or.inl ⟨by rfl, ?_⟩) (by assumption) ?_
    rotate_left
    · (intro w hSw; (try dsimp only at hSw); go_simp; try (with_reducible rfl))
    try simp only [Act.put, List.setIfInBounds_toArray, List.set_cons_zero, List.set_cons_succ]
    refine take_list (i := 50) (v := ?_) rfl (by kernel_rfl) (by kernel_rfl) (by kernel_rfl) (fun _ _ _ h => h) (Or.inl ⟨by rfl, ?_⟩) (by assumption) ?_
    rotate_left
    · (intro w hSw; (try dsimp only at hSw); go_simp; try (with_reducible rfl))
    try simp only [Act.put, List.setIfInBounds_toArray, List.set_cons_zero, List.set_cons_succ]
    refine take_list (i := 51) (v := ?_) rfl (by kernel_rfl) (by kernel_rfl) (by kernel_rfl) (fun _ _ _ h => h) (Or.inl ⟨by rfl, ?_⟩) (by assumption) ?_
    rotate_left
    · (intro w hSw; (try dsimp only at hSw); go_simp; try (with_reducible rfl))
    try simp only [Act.put, List.setIfInBounds_toArray, List.set_cons_zero, List.set_cons_succ]
    refine take_list (i := 52) (v := ?_) rfl (by kernel_rfl) (by kernel_rfl) (by kernel_rfl) (fun _ _ _ h => h) (Or.inl ⟨by rfl, ?_⟩) (by assumption) ?_
    rotate_left
    · (intro w hSw; (try dsimp only at hSw); go_simp; try (with_reducible rfl))
    try simp only [Act.put, List.setIfInBounds_toArray, List.set_cons_zero, List.set_cons_succ]
    refine wpAnyH_ready (rs := [48]) (by kernel_rfl) (by simp) ?_
    refine cons_list rfl (fun K hK => ?_) AllReadyH.nil
    go_simp
    (go_at_call 17; refine (L1.out _ (by assumption)).mono ?_; rintro e wn ⟨rfl, hbn⟩; (have hsn := since_trans (by assumption) hbn))
    refine hK.out _ _ ((by first | exact HX.out _ (by assumption) | exact HX.out _ (since_alloc (by assumption) _))) (fun hHeld10 => ?_)
    clear hK K hHeld9
    try simp only [Act.put, List.setIfInBounds_toArray, List.set_cons_zero, List.set_cons_succ]
    refine take_list (i := 49) (v := ?_) rfl (by kernel_rfl) (by kernel_rfl) (by kernel_rfl) (fun _ _ _ h => h) (Or.inl ⟨by rfl, ?_⟩) (by assumption) ?_
    rotate_left
    · (intro w hSw; (try dsimp only at hSw); go_simp; try (with_reducible rfl))
    try simp only [Act.put, List.setIfInBounds_toArray, List.set_cons_zero, List.set_cons_succ]
    refine take_list (i := 53) (v := ?_) rfl (by kernel_rfl) (by kernel_rfl) (by kernel_rfl) (fun _ _ _ h => h) (Or.inl ⟨by rfl, ?_⟩) (by assumption) ?_
    rotate_left
    · (intro w hSw; (try dsimp only at hSw); go_simp; try (with_reducible rfl))
    try simp only [Act.put, List.setIfInBounds_toArray, List.set_cons_zero, List.set_cons_succ]
    refine take_list (i := 54) (v := ?_) rfl (by kernel_rfl) (by kernel_rfl) (by kernel_rfl) (fun _ _ _ h => h) (Or.inl ⟨by rfl, ?_⟩) (by assumption) ?_
    rotate_left
    · (intro w hSw; (try dsimp only at hSw); go_simp; try (with_reducible rfl))
    try simp only [Act.put, List.setIfInBounds_toArray, List.set_cons_zero, List.set_cons_succ]
    refine take_list (i := 55) (v := ?_) rfl (by kernel_rfl) (by kernel_rfl) (by kernel_rfl) (fun _ _ _ h => h) (Or.inl ⟨by rfl, ?_⟩) (by assumption) ?_
    rotate_left
    · (intro w hSw; (try dsimp only at hSw); go_simp; try (with_reducible rfl))
    try simp only [Act.put, List.setIfInBounds_toArray, List.set_cons_zero, List.set_cons_succ]
    refine wpAnyH_done (by kernel_rfl) ?_ _
    clear hHeld10
    go_wp2
    go_ret
    exact ⟨rfl, since_trans BV.out hsn⟩
end Go.Proofs.YtmioaanbehacgaaDoor

/- The document's own answers of layers 1 and 5: Clean, Has, Up, Other; of layer 7: in. -/
import Derived.Test.YtakolnmoieiicaaGreatRef3r
namespace Go.Proofs.YtakolnmoieiicaaGreat
set_option linter.unusedSimpArgs false
set_option linter.unusedVariables false
open Go.RowKit

theorem tmod_bound (f : Int) : -65536 < f.tmod 65536 ∧ f.tmod 65536 < 65536 ∧ (f.tmod 65536 + 65536) % 65536 = f % 65536 := by
  rw [Int.tmod_eq_emod]
  split <;> simp <;> omega
theorem rclean_any (f : Int) (w : World) : Calls Tryz.prog 100 #[.int .i64 f] w fun e w' => e = .returned (.int .i64 (f % 65536)) ∧ w = w' := by
  obtain ⟨hb1, hb2, hb3⟩ := tmod_bound f
  have hm : IntKind.i64.wrap (f.tmod 65536) = f.tmod 65536 := by rw [IntKind.wrap_i64]; omega
  have hm2 : IntKind.i64.wrap (f.tmod 65536 + 65536) = f.tmod 65536 + 65536 := by rw [IntKind.wrap_i64]; omega
  have HE := Lib.hid (show (f.tmod 65536 + 65536).tmod 65536 = f % 65536 from by rw [Int.tmod_eq_emod_of_nonneg (by omega)]; exact hb3)
  clear hb1 hb2 hb3
  go_enter Tryz.func100, Tryz.ntmps100
  go_wp2
  go_ret
  exact ⟨ret_int HE.out, rfl⟩
attribute [local go_sem ↓] Go.wp_at_zero Go.wp_at_succ
set_option maxHeartbeats 4000000 in
theorem rhas_any (f n : Int) (w : World) : Calls Tryz.prog 79 #[.int .i64 f, .int .i64 n] w fun e w' => e = .returned (.bool (hasB f n)) ∧ Below w.heap.size w w' := by
  by_cases h : 0 ≤ n ∧ n < 16
  · have hc : 0 ≤ f % 65536 ∧ f % 65536 < 65536 := by omega
    have hcases : n = 0 ∨ n = 1 ∨ n = 2 ∨ n = 3 ∨ n = 4 ∨ n = 5 ∨ n = 6 ∨ n = 7 ∨ n = 8 ∨ n = 9 ∨ n = 10 ∨ n = 11 ∨ n = 12 ∨ n = 13 ∨ n = 14 ∨ n = 15 := by omega
    have HC : Hid (∀ k : Nat, k < 16 → ((f % 65536).tdiv (2 ^ k)).tmod 2 = f / 2 ^ k % 2) := Lib.hid (fun k hk => by
      have : k = 0 ∨ k = 1 ∨ k = 2 ∨ k = 3 ∨ k = 4 ∨ k = 5 ∨ k = 6 ∨ k = 7 ∨ k = 8 ∨ k = 9 ∨ k = 10 ∨ k = 11 ∨ k = 12 ∨ k = 13 ∨ k = 14 ∨ k = 15 := by omega
      rw [Int.tdiv_eq_ediv_of_nonneg hc.1, Int.tmod_eq_emod_of_nonneg (Int.ediv_nonneg hc.1 (by exact Int.pow_nonneg (by decide)))]
      rcases this with rfl | rfl | rfl | rfl | rfl | rfl | rfl | rfl | rfl | rfl | rfl | rfl | rfl | rfl | rfl | rfl <;> simp <;> omega)
    clear h hc
    have HB := Lib.hid (below_drew (Below.refl w.heap.size w))
    rcases hcases with rfl | rfl | rfl | rfl | rfl | rfl | rfl | rfl | rfl | rfl | rfl | rfl | rfl | rfl | rfl | rfl
    · have hw : IntKind.i64.wrap 1 = 1 := by rw [IntKind.wrap_i64]; omega
      have hx := HC.out 0 (by decide)
      have hq : (f % 65536).tdiv 1 = f % 65536 := Int.tdiv_one _
      have hw2 : IntKind.i64.wrap (f % 65536) = f % 65536 := by rw [IntKind.wrap_i64]; omega
      have hr : (f % 65536).tmod 2 = f % 65536 % 2 := Int.tmod_eq_emod_of_nonneg (by omega)
      have hw3 : IntKind.i64.wrap (f % 65536 % 2) = f % 65536 % 2 := by rw [IntKind.wrap_i64]; omega
      have HE := Lib.hid (show (f % 2 == 1) = hasB f 0 from by rw [Bool.eq_iff_iff]; simp [hasB] <;> omega)
      clear hx
      go_enter Tryz.func79, Tryz.ntmps79
      go_upto_region 3 with fail
      refine wp_region_held_drew (S := (fun wy => Below w.heap.size w wy)) (by kernel_rfl) (HB.out) (fun hHeld0 => ?_)
      refine take_list (i := 0) (v := ?_) rfl (by kernel_rfl) (by kernel_rfl) (by kernel_rfl) (fun _ _ _ h => h) (Or.inl ⟨by rfl, ?_⟩) (by assumption) ?_
      rotate_left
      · (intro w hSw; (try dsimp only at hSw); go_simp; try (with_reducible rfl))
      try simp only [Act.put, List.setIfInBounds_toArray, List.set_cons_zero, List.set_cons_succ]
      refine take_list (i := 2) (v := ?_) rfl (by kernel_rfl) (by kernel_rfl) (by kernel_rfl) (fun _ _ _ h => h) (Or.inl ⟨by rfl, ?_⟩) (by assumption) ?_
      rotate_left
      · (intro w hSw; (try dsimp only at hSw); go_simp; try (with_reducible rfl))
      try simp only [Act.put, List.setIfInBounds_toArray, List.set_cons_zero, List.set_cons_succ]
      refine take_list (i := 3) (v := ?_) rfl (by kernel_rfl) (by kernel_rfl) (by kernel_rfl) (fun _ _ _ h => h) (Or.inl ⟨by rfl, ?_⟩) (by assumption) ?_
      rotate_left
      · (intro w hSw; (try dsimp only at hSw); go_simp; try (with_reducible rfl))
      try simp only [Act.put, List.setIfInBounds_toArray, List.set_cons_zero, List.set_cons_succ]
      refine wpAnyH_ready (rs := [1]) (by kernel_rfl) (by simp) ?_
      refine cons_list rfl (fun K hK => ?_) AllReadyH.nil
      go_simp
      (go_at_call 100; refine (rclean_any _ _).mono ?_; rintro e wm ⟨rfl, rfl⟩)
      refine hK.out _ _ (HB.out) (fun hHeld1 => ?_)
      clear hK K hHeld0
      try simp only [Act.put, List.setIfInBounds_toArray, List.set_cons_zero, List.set_cons_succ]
      refine take_list (i := 4) (v := ?_) rfl (by kernel_rfl) (by kernel_rfl) (by kernel_rfl) (fun _ _ _ h => h) (Or.inl ⟨by rfl, ?_⟩) (by assumption) ?_
      rotate_left
      · (intro w hSw; (try dsimp only at hSw); go_simp; try (with_reducible rfl))
      try simp only [Act.put, List.setIfInBounds_toArray, List.set_cons_zero, List.set_cons_succ]
      refine take_list (i := 5) (v := ?_) rfl (by kernel_rfl) (by kernel_rfl) (by kernel_rfl) (fun _ _ _ h => h) (Or.inl ⟨by rfl, ?_⟩) (by assumption) ?_
      rotate_left
      · (intro w hSw; (try dsimp only at hSw); go_simp; try (with_reducible rfl))
      try simp only [Act.put, List.setIfInBounds_toArray, List.set_cons_zero, List.set_cons_succ]
      refine take_list (i := 6) (v := ?_) rfl (by kernel_rfl) (by kernel_rfl) (by kernel_rfl) (fun _ _ _ h => h) (Or.inl ⟨by rfl, ?_⟩) (by assumption) ?_
      rotate_left
      · (intro w hSw; (try dsimp only at hSw); go_simp; try (with_reducible rfl))
      try simp only [Act.put, List.setIfInBounds_toArray, List.set_cons_zero, List.set_cons_succ]
      refine take_list (i := 7) (v := ?_) rfl (by kernel_rfl) (by kernel_rfl) (by kernel_rfl) (fun _ _ _ h => h) (Or.inl ⟨by rfl, ?_⟩) (by assumption) ?_
      rotate_left
      · (intro w hSw; (try dsimp only at hSw); go_simp; try (with_reducible rfl))
      try simp only [Act.put, List.setIfInBounds_toArray, List.set_cons_zero, List.set_cons_succ]
      refine wpAnyH_done (by kernel_rfl) ?_ _
      clear hHeld1
      go_wp2
      go_ret
      exact ⟨ret_bool HE.out, HB.out⟩
    · have hw : IntKind.i64.wrap 2 = 2 := by rw [IntKind.wrap_i64]; omega
      have hx := HC.out 1 (by decide)
      have hq : (f % 65536).tdiv 2 = f % 65536 / 2 := Int.tdiv_eq_ediv_of_nonneg (by omega)
      have hw2 : IntKind.i64.wrap (f % 65536 / 2) = f % 65536 / 2 := by rw [IntKind.wrap_i64]; omega
      have hr : (f % 65536 / 2).tmod 2 = f % 65536 / 2 % 2 := Int.tmod_eq_emod_of_nonneg (by omega)
      have hw3 : IntKind.i64.wrap (f % 65536 / 2 % 2) = f % 65536 / 2 % 2 := by rw [IntKind.wrap_i64]; omega
      have HE := Lib.hid (show (f % 65536 / 2 % 2 == 1) = hasB f 1 from by rw [Bool.eq_iff_iff]; simp [hasB] <;> omega)
      clear hx
      go_enter Tryz.func79, Tryz.ntmps79
      go_upto_region 3 with fail
      refine wp_region_held_drew (S := (fun wy => Below w.heap.size w wy)) (by kernel_rfl) (HB.out) (fun hHeld0 => ?_)
      refine take_list (i := 0) (v := ?_) rfl (by kernel_rfl) (by kernel_rfl) (by kernel_rfl) (fun _ _ _ h => h) (Or.inl ⟨by rfl, ?_⟩) (by assumption) ?_
      rotate_left
      · (intro w hSw; (try dsimp only at hSw); go_simp; try (with_reducible rfl))
      try simp only [Act.put, List.setIfInBounds_toArray, List.set_cons_zero, List.set_cons_succ]
      refine take_list (i := 2) (v := ?_) rfl (by kernel_rfl) (by kernel_rfl) (by kernel_rfl) (fun _ _ _ h => h) (Or.inl ⟨by rfl, ?_⟩) (by assumption) ?_
      rotate_left
      · (intro w hSw; (try dsimp only at hSw); go_simp; try (with_reducible rfl))
      try simp only [Act.put, List.setIfInBounds_toArray, List.set_cons_zero, List.set_cons_succ]
      refine take_list (i := 3) (v := ?_) rfl (by kernel_rfl) (by kernel_rfl) (by kernel_rfl) (fun _ _ _ h => h) (Or.inl ⟨by rfl, ?_⟩) (by assumption) ?_
      rotate_left
      · (intro w hSw; (try dsimp only at hSw); go_simp; try (with_reducible rfl))
      try simp only [Act.put, List.setIfInBounds_toArray, List.set_cons_zero, List.set_cons_succ]
      refine wpAnyH_ready (rs := [1]) (by kernel_rfl) (by simp) ?_
      refine cons_list rfl (fun K hK => ?_) AllReadyH.nil
      go_simp
      (go_at_call 100; refine (rclean_any _ _).mono ?_; rintro e wm ⟨rfl, rfl⟩)
      refine hK.out _ _ (HB.out) (fun hHeld1 => ?_)
      clear hK K hHeld0
      try simp only [Act.put, List.setIfInBounds_toArray, List.set_cons_zero, List.set_cons_succ]
      refine take_list (i := 4) (v := ?_) rfl (by kernel_rfl) (by kernel_rfl) (by kernel_rfl) (fun _ _ _ h => h) (Or.inl ⟨by rfl, ?_⟩) (by assumption) ?_
      rotate_left
      · (intro w hSw; (try dsimp only at hSw); go_simp; try (with_reducible rfl))
      try simp only [Act.put, List.setIfInBounds_toArray, List.set_cons_zero, List.set_cons_succ]
      refine take_list (i := 5) (v := ?_) rfl (by kernel_rfl) (by kernel_rfl) (by kernel_rfl) (fun _ _ _ h => h) (Or.inl ⟨by rfl, ?_⟩) (by assumption) ?_
      rotate_left
      · (intro w hSw; (try dsimp only at hSw); go_simp; try (with_reducible rfl))
      try simp only [Act.put, List.setIfInBounds_toArray, List.set_cons_zero, List.set_cons_succ]
      refine take_list (i := 6) (v := ?_) rfl (by kernel_rfl) (by kernel_rfl) (by kernel_rfl) (fun _ _ _ h => h) (Or.inl ⟨by rfl, ?_⟩) (by assumption) ?_
      rotate_left
      · (intro w hSw; (try dsimp only at hSw); go_simp; try (with_reducible rfl))
      try simp only [Act.put, List.setIfInBounds_toArray, List.set_cons_zero, List.set_cons_succ]
      refine take_list (i := 7) (v := ?_) rfl (by kernel_rfl) (by kernel_rfl) (by kernel_rfl) (fun _ _ _ h => h) (Or.inl ⟨by rfl, ?_⟩) (by assumption) ?_
      rotate_left
      · (intro w hSw; (try dsimp only at hSw); go_simp; try (with_reducible rfl))
      try simp only [Act.put, List.setIfInBounds_toArray, List.set_cons_zero, List.set_cons_succ]
      refine wpAnyH_done (by kernel_rfl) ?_ _
      clear hHeld1
      go_wp2
      go_ret
      exact ⟨ret_bool HE.out, HB.out⟩
    · have hw : IntKind.i64.wrap 4 = 4 := by rw [IntKind.wrap_i64]; omega
      have hx := HC.out 2 (by decide)
      have hq : (f % 65536).tdiv 4 = f % 65536 / 4 := Int.tdiv_eq_ediv_of_nonneg (by omega)
      have hw2 : IntKind.i64.wrap (f % 65536 / 4) = f % 65536 / 4 := by rw [IntKind.wrap_i64]; omega
      have hr : (f % 65536 / 4).tmod 2 = f % 65536 / 4 % 2 := Int.tmod_eq_emod_of_nonneg (by omega)
      have hw3 : IntKind.i64.wrap (f % 65536 / 4 % 2) = f % 65536 / 4 % 2 := by rw [IntKind.wrap_i64]; omega
      have HE := Lib.hid (show (f % 65536 / 4 % 2 == 1) = hasB f 2 from by rw [Bool.eq_iff_iff]; simp [hasB] <;> omega)
      clear hx
      go_enter Tryz.func79, Tryz.ntmps79
      go_upto_region 3 with fail
      refine wp_region_held_drew (S := (fun wy => Below w.heap.size w wy)) (by kernel_rfl) (HB.out) (fun hHeld0 => ?_)
      refine take_list (i := 0) (v := ?_) rfl (by kernel_rfl) (by kernel_rfl) (by kernel_rfl) (fun _ _ _ h => h) (Or.inl ⟨by rfl, ?_⟩) (by assumption) ?_
      rotate_left
      · (intro w hSw; (try dsimp only at hSw); go_simp; try (with_reducible rfl))
      try simp only [Act.put, List.setIfInBounds_toArray, List.set_cons_zero, List.set_cons_succ]
      refine take_list (i := 2) (v := ?_) rfl (by kernel_rfl) (by kernel_rfl) (by kernel_rfl) (fun _ _ _ h => h) (Or.inl ⟨by rfl, ?_⟩) (by assumption) ?_
      rotate_left
      · (intro w hSw; (try dsimp only at hSw); go_simp; try (with_reducible rfl))
      try simp only [Act.put, List.setIfInBounds_toArray, List.set_cons_zero, List.set_cons_succ]
      refine take_list (i := 3) (v := ?_) rfl (by kernel_rfl) (by kernel_rfl) (by kernel_rfl) (fun _ _ _ h => h) (Or.inl ⟨by rfl, ?_⟩) (by assumption) ?_
      rotate_left
      · (intro w hSw; (try dsimp only at hSw); go_simp; try (with_reducible rfl))
      try simp only [Act.put, List.setIfInBounds_toArray, List.set_cons_zero, List.set_cons_succ]
      refine wpAnyH_ready (rs := [1]) (by kernel_rfl) (by simp) ?_
      refine cons_list rfl (fun K hK => ?_) AllReadyH.nil
      go_simp
      (go_at_call 100; refine (rclean_any _ _).mono ?_; rintro e wm ⟨rfl, rfl⟩)
      refine hK.out _ _ (HB.out) (fun hHeld1 => ?_)
      clear hK K hHeld0
      try simp only [Act.put, List.setIfInBounds_toArray, List.set_cons_zero, List.set_cons_succ]
      refine take_list (i := 4) (v := ?_) rfl (by kernel_rfl) (by kernel_rfl) (by kernel_rfl) (fun _ _ _ h => h) (Or.inl ⟨by rfl, ?_⟩) (by assumption) ?_
      rotate_left
      · (intro w hSw; (try dsimp only at hSw); go_simp; try (with_reducible rfl))
      try simp only [Act.put, List.setIfInBounds_toArray, List.set_cons_zero, List.set_cons_succ]
      refine take_list (i := 5) (v := ?_) rfl (by kernel_rfl) (by kernel_rfl) (by kernel_rfl) (fun _ _ _ h => h) (Or.inl ⟨by rfl, ?_⟩) (by assumption) ?_
      rotate_left
      · (intro w hSw; (try dsimp only at hSw); go_simp; try (with_reducible rfl))
      try simp only [Act.put, List.setIfInBounds_toArray, List.set_cons_zero, List.set_cons_succ]
      refine take_list (i := 6) (v := ?_) rfl (by kernel_rfl) (by kernel_rfl) (by kernel_rfl) (fun _ _ _ h => h) (Or.inl ⟨by rfl, ?_⟩) (by assumption) ?_
      rotate_left
      · (intro w hSw; (try dsimp only at hSw); go_simp; try (with_reducible rfl))
      try simp only [Act.put, List.setIfInBounds_toArray, List.set_cons_zero, List.set_cons_succ]
      refine take_list (i := 7) (v := ?_) rfl (by kernel_rfl) (by kernel_rfl) (by kernel_rfl) (fun _ _ _ h => h) (Or.inl ⟨by rfl, ?_⟩) (by assumption) ?_
      rotate_left
      · (intro w hSw; (try dsimp only at hSw); go_simp; try (with_reducible rfl))
      try simp only [Act.put, List.setIfInBounds_toArray, List.set_cons_zero, List.set_cons_succ]
      refine wpAnyH_done (by kernel_rfl) ?_ _
      clear hHeld1
      go_wp2
      go_ret
      exact ⟨ret_bool HE.out, HB.out⟩
    · have hw : IntKind.i64.wrap 8 = 8 := by rw [IntKind.wrap_i64]; omega
      have hx := HC.out 3 (by decide)
      have hq : (f % 65536).tdiv 8 = f % 65536 / 8 := Int.tdiv_eq_ediv_of_nonneg (by omega)
      have hw2 : IntKind.i64.wrap (f % 65536 / 8) = f % 65536 / 8 := by rw [IntKind.wrap_i64]; omega
      have hr : (f % 65536 / 8).tmod 2 = f % 65536 / 8 % 2 := Int.tmod_eq_emod_of_nonneg (by omega)
      have hw3 : IntKind.i64.wrap (f % 65536 / 8 % 2) = f % 65536 / 8 % 2 := by rw [IntKind.wrap_i64]; omega
      have HE := Lib.hid (show (f % 65536 / 8 % 2 == 1) = hasB f 3 from by rw [Bool.eq_iff_iff]; simp [hasB] <;> omega)
      clear hx
      go_enter Tryz.func79, Tryz.ntmps79
      go_upto_region 3 with fail
      refine wp_region_held_drew (S := (fun wy => Below w.heap.size w wy)) (by kernel_rfl) (HB.out) (fun hHeld0 => ?_)
      refine take_list (i := 0) (v := ?_) rfl (by kernel_rfl) (by kernel_rfl) (by kernel_rfl) (fun _ _ _ h => h) (Or.inl ⟨by rfl, ?_⟩) (by assumption) ?_
      rotate_left
      · (intro w hSw; (try dsimp only at hSw); go_simp; try (with_reducible rfl))
      try simp only [Act.put, List.setIfInBounds_toArray, List.set_cons_zero, List.set_cons_succ]
      refine take_list (i := 2) (v := ?_) rfl (by kernel_rfl) (by kernel_rfl) (by kernel_rfl) (fun _ _ _ h => h) (Or.inl ⟨by rfl, ?_⟩) (by assumption) ?_
      rotate_left
      · (intro w hSw; (try dsimp only at hSw); go_simp; try (with_reducible rfl))
      try simp only [Act.put, List.setIfInBounds_toArray, List.set_cons_zero, List.set_cons_succ]
      refine take_list (i := 3) (v := ?_) rfl (by kernel_rfl) (by kernel_rfl) (by kernel_rfl) (fun _ _ _ h => h) (Or.inl ⟨by rfl, ?_⟩) (by assumption) ?_
      rotate_left
      · (intro w hSw; (try dsimp only at hSw); go_simp; try (with_reducible rfl))
      try simp only [Act.put, List.setIfInBounds_toArray, List.set_cons_zero, List.set_cons_succ]
      refine wpAnyH_ready (rs := [1]) (by kernel_rfl) (by simp) ?_
      refine cons_list rfl (fun K hK => ?_) AllReadyH.nil
      go_simp
      (go_at_call 100; refine (rclean_any _ _).mono ?_; rintro e wm ⟨rfl, rfl⟩)
      refine hK.out _ _ (HB.out) (fun hHeld1 => ?_)
      clear hK K hHeld0
      try simp only [Act.put, List.setIfInBounds_toArray, List.set_cons_zero, List.set_cons_succ]
      refine take_list (i := 4) (v := ?_) rfl (by kernel_rfl) (by kernel_rfl) (by kernel_rfl) (fun _ _ _ h => h) (Or.inl ⟨by rfl, ?_⟩) (by assumption) ?_
      rotate_left
      · (intro w hSw; (try dsimp only at hSw); go_simp; try (with_reducible rfl))
      try simp only [Act.put, List.setIfInBounds_toArray, List.set_cons_zero, List.set_cons_succ]
      refine take_list (i := 5) (v := ?_) rfl (by kernel_rfl) (by kernel_rfl) (by kernel_rfl) (fun _ _ _ h => h) (Or.inl ⟨by rfl, ?_⟩) (by assumption) ?_
      rotate_left
      · (intro w hSw; (try dsimp only at hSw); go_simp; try (with_reducible rfl))
      try simp only [Act.put, List.setIfInBounds_toArray, List.set_cons_zero, List.set_cons_succ]
      refine take_list (i := 6) (v := ?_) rfl (by kernel_rfl) (by kernel_rfl) (by kernel_rfl) (fun _ _ _ h => h) (Or.inl ⟨by rfl, ?_⟩) (by assumption) ?_
      rotate_left
      · (intro w hSw; (try dsimp only at hSw); go_simp; try (with_reducible rfl))
      try simp only [Act.put, List.setIfInBounds_toArray, List.set_cons_zero, List.set_cons_succ]
      refine take_list (i := 7) (v := ?_) rfl (by kernel_rfl) (by kernel_rfl) (by kernel_rfl) (fun _ _ _ h => h) (Or.inl ⟨by rfl, ?_⟩) (by assumption) ?_
      rotate_left
      · (intro w hSw; (try dsimp only at hSw); go_simp; try (with_reducible rfl))
      try simp only [Act.put, List.setIfInBounds_toArray, List.set_cons_zero, List.set_cons_succ]
      refine wpAnyH_done (by kernel_rfl) ?_ _
      clear hHeld1
      go_wp2
      go_ret
      exact ⟨ret_bool HE.out, HB.out⟩
    · have hw : IntKind.i64.wrap 16 = 16 := by rw [IntKind.wrap_i64]; omega
      have hx := HC.out 4 (by decide)
      have hq : (f % 65536).tdiv 16 = f % 65536 / 16 := Int.tdiv_eq_ediv_of_nonneg (by omega)
      have hw2 : IntKind.i64.wrap (f % 65536 / 16) = f % 65536 / 16 := by rw [IntKind.wrap_i64]; omega
      have hr : (f % 65536 / 16).tmod 2 = f % 65536 / 16 % 2 := Int.tmod_eq_emod_of_nonneg (by omega)
      have hw3 : IntKind.i64.wrap (f % 65536 / 16 % 2) = f % 65536 / 16 % 2 := by rw [IntKind.wrap_i64]; omega
      have HE := Lib.hid (show (f % 65536 / 16 % 2 == 1) = hasB f 4 from by rw [Bool.eq_iff_iff]; simp [hasB] <;> omega)
      clear hx
      go_enter Tryz.func79, Tryz.ntmps79
      go_upto_region 3 with fail
      refine wp_region_held_drew (S := (fun wy => Below w.heap.size w wy)) (by kernel_rfl) (HB.out) (fun hHeld0 => ?_)
      refine take_list (i := 0) (v := ?_) rfl (by kernel_rfl) (by kernel_rfl) (by kernel_rfl) (fun _ _ _ h => h) (Or.inl ⟨by rfl, ?_⟩) (by assumption) ?_
      rotate_left
      · (intro w hSw; (try dsimp only at hSw); go_simp; try (with_reducible rfl))
      try simp only [Act.put, List.setIfInBounds_toArray, List.set_cons_zero, List.set_cons_succ]
      refine take_list (i := 2) (v := ?_) rfl (by kernel_rfl) (by kernel_rfl) (by kernel_rfl) (fun _ _ _ h => h) (Or.inl ⟨by rfl, ?_⟩) (by assumption) ?_
      rotate_left
      · (intro w hSw; (try dsimp only at hSw); go_simp; try (with_reducible rfl))
      try simp only [Act.put, List.setIfInBounds_toArray, List.set_cons_zero, List.set_cons_succ]
      refine take_list (i := 3) (v := ?_) rfl (by kernel_rfl) (by kernel_rfl) (by kernel_rfl) (fun _ _ _ h => h) (Or.inl ⟨by rfl, ?_⟩) (by assumption) ?_
      rotate_left
      · (intro w hSw; (try dsimp only at hSw); go_simp; try (with_reducible rfl))
      try simp only [Act.put, List.setIfInBounds_toArray, List.set_cons_zero, List.set_cons_succ]
      refine wpAnyH_ready (rs := [1]) (by kernel_rfl) (by simp) ?_
      refine cons_list rfl (fun K hK => ?_) AllReadyH.nil
      go_simp
      (go_at_call 100; refine (rclean_any _ _).mono ?_; rintro e wm ⟨rfl, rfl⟩)
      refine hK.out _ _ (HB.out) (fun hHeld1 => ?_)
      clear hK K hHeld0
      try simp only [Act.put, List.setIfInBounds_toArray, List.set_cons_zero, List.set_cons_succ]
      refine take_list (i := 4) (v := ?_) rfl (by kernel_rfl) (by kernel_rfl) (by kernel_rfl) (fun _ _ _ h => h) (Or.inl ⟨by rfl, ?_⟩) (by assumption) ?_
      rotate_left
      · (intro w hSw; (try dsimp only at hSw); go_simp; try (with_reducible rfl))
      try simp only [Act.put, List.setIfInBounds_toArray, List.set_cons_zero, List.set_cons_succ]
      refine take_list (i := 5) (v := ?_) rfl (by kernel_rfl) (by kernel_rfl) (by kernel_rfl) (fun _ _ _ h => h) (Or.inl ⟨by rfl, ?_⟩) (by assumption) ?_
      rotate_left
      · (intro w hSw; (try dsimp only at hSw); go_simp; try (with_reducible rfl))
      try simp only [Act.put, List.setIfInBounds_toArray, List.set_cons_zero, List.set_cons_succ]
      refine take_list (i := 6) (v := ?_) rfl (by kernel_rfl) (by kernel_rfl) (by kernel_rfl) (fun _ _ _ h => h) (Or.inl ⟨by rfl, ?_⟩) (by assumption) ?_
      rotate_left
      · (intro w hSw; (try dsimp only at hSw); go_simp; try (with_reducible rfl))
      try simp only [Act.put, List.setIfInBounds_toArray, List.set_cons_zero, List.set_cons_succ]
      refine take_list (i := 7) (v := ?_) rfl (by kernel_rfl) (by kernel_rfl) (by kernel_rfl) (fun _ _ _ h => h) (Or.inl ⟨by rfl, ?_⟩) (by assumption) ?_
      rotate_left
      · (intro w hSw; (try dsimp only at hSw); go_simp; try (with_reducible rfl))
      try simp only [Act.put, List.setIfInBounds_toArray, List.set_cons_zero, List.set_cons_succ]
      refine wpAnyH_done (by kernel_rfl) ?_ _
      clear hHeld1
      go_wp2
      go_ret
      exact ⟨ret_bool HE.out, HB.out⟩
    · have hw : IntKind.i64.wrap 32 = 32 := by rw [IntKind.wrap_i64]; omega
      have hx := HC.out 5 (by decide)
      have hq : (f % 65536).tdiv 32 = f % 65536 / 32 := Int.tdiv_eq_ediv_of_nonneg (by omega)
      have hw2 : IntKind.i64.wrap (f % 65536 / 32) = f % 65536 / 32 := by rw [IntKind.wrap_i64]; omega
      have hr : (f % 65536 / 32).tmod 2 = f % 65536 / 32 % 2 := Int.tmod_eq_emod_of_nonneg (by omega)
      have hw3 : IntKind.i64.wrap (f % 65536 / 32 % 2) = f % 65536 / 32 % 2 := by rw [IntKind.wrap_i64]; omega
      have HE := Lib.hid (show (f % 65536 / 32 % 2 == 1) = hasB f 5 from by rw [Bool.eq_iff_iff]; simp [hasB] <;> omega)
      clear hx
      go_enter Tryz.func79, Tryz.ntmps79
      go_upto_region 3 with fail
      refine wp_region_held_drew (S := (fun wy => Below w.heap.size w wy)) (by kernel_rfl) (HB.out) (fun hHeld0 => ?_)
      refine take_list (i := 0) (v := ?_) rfl (by kernel_rfl) (by kernel_rfl) (by kernel_rfl) (fun _ _ _ h => h) (Or.inl ⟨by rfl, ?_⟩) (by assumption) ?_
      rotate_left
      · (intro w hSw; (try dsimp only at hSw); go_simp; try (with_reducible rfl))
      try simp only [Act.put, List.setIfInBounds_toArray, List.set_cons_zero, List.set_cons_succ]
      refine take_list (i := 2) (v := ?_) rfl (by kernel_rfl) (by kernel_rfl) (by kernel_rfl) (fun _ _ _ h => h) (Or.inl ⟨by rfl, ?_⟩) (by assumption) ?_
      rotate_left
      · (intro w hSw; (try dsimp only at hSw); go_simp; try (with_reducible rfl))
      try simp only [Act.put, List.setIfInBounds_toArray, List.set_cons_zero, List.set_cons_succ]
      refine take_list (i := 3) (v := ?_) rfl (by kernel_rfl) (by kernel_rfl) (by kernel_rfl) (fun _ _ _ h => h) (Or.inl ⟨by rfl, ?_⟩) (by assumption) ?_
      rotate_left
      · (intro w hSw; (try dsimp only at hSw); go_simp; try (with_reducible rfl))
      try simp only [Act.put, List.setIfInBounds_toArray, List.set_cons_zero, List.set_cons_succ]
      refine wpAnyH_ready (rs := [1]) (by kernel_rfl) (by simp) ?_
      refine cons_list rfl (fun K hK => ?_) AllReadyH.nil
      go_simp
      (go_at_call 100; refine (rclean_any _ _).mono ?_; rintro e wm ⟨rfl, rfl⟩)
      refine hK.out _ _ (HB.out) (fun hHeld1 => ?_)
      clear hK K hHeld0
      try simp only [Act.put, List.setIfInBounds_toArray, List.set_cons_zero, List.set_cons_succ]
      refine take_list (i := 4) (v := ?_) rfl (by kernel_rfl) (by kernel_rfl) (by kernel_rfl) (fun _ _ _ h => h) (Or.inl ⟨by rfl, ?_⟩) (by assumption) ?_
      rotate_left
      · (intro w hSw; (try dsimp only at hSw); go_simp; try (with_reducible rfl))
      try simp only [Act.put, List.setIfInBounds_toArray, List.set_cons_zero, List.set_cons_succ]
      refine take_list (i := 5) (v := ?_) rfl (by kernel_rfl) (by kernel_rfl) (by kernel_rfl) (fun _ _ _ h => h) (Or.inl ⟨by rfl, ?_⟩) (by assumption) ?_
      rotate_left
      · (intro w hSw; (try dsimp only at hSw); go_simp; try (with_reducible rfl))
      try simp only [Act.put, List.setIfInBounds_toArray, List.set_cons_zero, List.set_cons_succ]
      refine take_list (i := 6) (v := ?_) rfl (by kernel_rfl) (by kernel_rfl) (by kernel_rfl) (fun _ _ _ h => h) (Or.inl ⟨by rfl, ?_⟩) (by assumption) ?_
      rotate_left
      · (intro w hSw; (try dsimp only at hSw); go_simp; try (with_reducible rfl))
      try simp only [Act.put, List.setIfInBounds_toArray, List.set_cons_zero, List.set_cons_succ]
      refine take_list (i := 7) (v := ?_) rfl (by kernel_rfl) (by kernel_rfl) (by kernel_rfl) (fun _ _ _ h => h) (Or.inl ⟨by rfl, ?_⟩) (by assumption) ?_
      rotate_left
      · (intro w hSw; (try dsimp only at hSw); go_simp; try (with_reducible rfl))
      try simp only [Act.put, List.setIfInBounds_toArray, List.set_cons_zero, List.set_cons_succ]
      refine wpAnyH_done (by kernel_rfl) ?_ _
      clear hHeld1
      go_wp2
      go_ret
      exact ⟨ret_bool HE.out, HB.out⟩
    · have hw : IntKind.i64.wrap 64 = 64 := by rw [IntKind.wrap_i64]; omega
      have hx := HC.out 6 (by decide)
      have hq : (f % 65536).tdiv 64 = f % 65536 / 64 := Int.tdiv_eq_ediv_of_nonneg (by omega)
      have hw2 : IntKind.i64.wrap (f % 65536 / 64) = f % 65536 / 64 := by rw [IntKind.wrap_i64]; omega
      have hr : (f % 65536 / 64).tmod 2 = f % 65536 / 64 % 2 := Int.tmod_eq_emod_of_nonneg (by omega)
      have hw3 : IntKind.i64.wrap (f % 65536 / 64 % 2) = f % 65536 / 64 % 2 := by rw [IntKind.wrap_i64]; omega
      have HE := Lib.hid (show (f % 65536 / 64 % 2 == 1) = hasB f 6 from by rw [Bool.eq_iff_iff]; simp [hasB] <;> omega)
      clear hx
      go_enter Tryz.func79, Tryz.ntmps79
      go_upto_region 3 with fail
      refine wp_region_held_drew (S := (fun wy => Below w.heap.size w wy)) (by kernel_rfl) (HB.out) (fun hHeld0 => ?_)
      refine take_list (i := 0) (v := ?_) rfl (by kernel_rfl) (by kernel_rfl) (by kernel_rfl) (fun _ _ _ h => h) (Or.inl ⟨by rfl, ?_⟩) (by assumption) ?_
      rotate_left
      · (intro w hSw; (try dsimp only at hSw); go_simp; try (with_reducible rfl))
      try simp only [Act.put, List.setIfInBounds_toArray, List.set_cons_zero, List.set_cons_succ]
      refine take_list (i := 2) (v := ?_) rfl (by kernel_rfl) (by kernel_rfl) (by kernel_rfl) (fun _ _ _ h => h) (Or.inl ⟨by rfl, ?_⟩) (by assumption) ?_
      rotate_left
      · (intro w hSw; (try dsimp only at hSw); go_simp; try (with_reducible rfl))
      try simp only [Act.put, List.setIfInBounds_toArray, List.set_cons_zero, List.set_cons_succ]
      refine take_list (i := 3) (v := ?_) rfl (by kernel_rfl) (by kernel_rfl) (by kernel_rfl) (fun _ _ _ h => h) (Or.inl ⟨by rfl, ?_⟩) (by assumption) ?_
      rotate_left
      · (intro w hSw; (try dsimp only at hSw); go_simp; try (with_reducible rfl))
      try simp only [Act.put, List.setIfInBounds_toArray, List.set_cons_zero, List.set_cons_succ]
      refine wpAnyH_ready (rs := [1]) (by kernel_rfl) (by simp) ?_
      refine cons_list rfl (fun K hK => ?_) AllReadyH.nil
      go_simp
      (go_at_call 100; refine (rclean_any _ _).mono ?_; rintro e wm ⟨rfl, rfl⟩)
      refine hK.out _ _ (HB.out) (fun hHeld1 => ?_)
      clear hK K hHeld0
      try simp only [Act.put, List.setIfInBounds_toArray, List.set_cons_zero, List.set_cons_succ]
      refine take_list (i := 4) (v := ?_) rfl (by kernel_rfl) (by kernel_rfl) (by kernel_rfl) (fun _ _ _ h => h) (Or.inl ⟨by rfl, ?_⟩) (by assumption) ?_
      rotate_left
      · (intro w hSw; (try dsimp only at hSw); go_simp; try (with_reducible rfl))
      try simp only [Act.put, List.setIfInBounds_toArray, List.set_cons_zero, List.set_cons_succ]
      refine take_list (i := 5) (v := ?_) rfl (by kernel_rfl) (by kernel_rfl) (by kernel_rfl) (fun _ _ _ h => h) (Or.inl ⟨by rfl, ?_⟩) (by assumption) ?_
      rotate_left
      · (intro w hSw; (try dsimp only at hSw); go_simp; try (with_reducible rfl))
      try simp only [Act.put, List.setIfInBounds_toArray, List.set_cons_zero, List.set_cons_succ]
      refine take_list (i := 6) (v := ?_) rfl (by kernel_rfl) (by kernel_rfl) (by kernel_rfl) (fun _ _ _ h => h) (Or.inl ⟨by rfl, ?_⟩) (by assumption) ?_
      rotate_left
      · (intro w hSw; (try dsimp only at hSw); go_simp; try (with_reducible rfl))
      try simp only [Act.put, List.setIfInBounds_toArray, List.set_cons_zero, List.set_cons_succ]
      refine take_list (i := 7) (v := ?_) rfl (by kernel_rfl) (by kernel_rfl) (by kernel_rfl) (fun _ _ _ h => h) (Or.inl ⟨by rfl, ?_⟩) (by assumption) ?_
      rotate_left
      · (intro w hSw; (try dsimp only at hSw); go_simp; try (with_reducible rfl))
      try simp only [Act.put, List.setIfInBounds_toArray, List.set_cons_zero, List.set_cons_succ]
      refine wpAnyH_done (by kernel_rfl) ?_ _
      clear hHeld1
      go_wp2
      go_ret
      exact ⟨ret_bool HE.out, HB.out⟩
    · have hw : IntKind.i64.wrap 128 = 128 := by rw [IntKind.wrap_i64]; omega
      have hx := HC.out 7 (by decide)
      have hq : (f % 65536).tdiv 128 = f % 65536 / 128 := Int.tdiv_eq_ediv_of_nonneg (by omega)
      have hw2 : IntKind.i64.wrap (f % 65536 / 128) = f % 65536 / 128 := by rw [IntKind.wrap_i64]; omega
      have hr : (f % 65536 / 128).tmod 2 = f % 65536 / 128 % 2 := Int.tmod_eq_emod_of_nonneg (by omega)
      have hw3 : IntKind.i64.wrap (f % 65536 / 128 % 2) = f % 65536 / 128 % 2 := by rw [IntKind.wrap_i64]; omega
      have HE := Lib.hid (show (f % 65536 / 128 % 2 == 1) = hasB f 7 from by rw [Bool.eq_iff_iff]; simp [hasB] <;> omega)
      clear hx
      go_enter Tryz.func79, Tryz.ntmps79
      go_upto_region 3 with fail
      refine wp_region_held_drew (S := (fun wy => Below w.heap.size w wy)) (by kernel_rfl) (HB.out) (fun hHeld0 => ?_)
      refine take_list (i := 0) (v := ?_) rfl (by kernel_rfl) (by kernel_rfl) (by kernel_rfl) (fun _ _ _ h => h) (Or.inl ⟨by rfl, ?_⟩) (by assumption) ?_
      rotate_left
      · (intro w hSw; (try dsimp only at hSw); go_simp; try (with_reducible rfl))
      try simp only [Act.put, List.setIfInBounds_toArray, List.set_cons_zero, List.set_cons_succ]
      refine take_list (i := 2) (v := ?_) rfl (by kernel_rfl) (by kernel_rfl) (by kernel_rfl) (fun _ _ _ h => h) (Or.inl ⟨by rfl, ?_⟩) (by assumption) ?_
      rotate_left
      · (intro w hSw; (try dsimp only at hSw); go_simp; try (with_reducible rfl))
      try simp only [Act.put, List.setIfInBounds_toArray, List.set_cons_zero, List.set_cons_succ]
      refine take_list (i := 3) (v := ?_) rfl (by kernel_rfl) (by kernel_rfl) (by kernel_rfl) (fun _ _ _ h => h) (Or.inl ⟨by rfl, ?_⟩) (by assumption) ?_
      rotate_left
      · (intro w hSw; (try dsimp only at hSw); go_simp; try (with_reducible rfl))
      try simp only [Act.put, List.setIfInBounds_toArray, List.set_cons_zero, List.set_cons_succ]
      refine wpAnyH_ready (rs := [1]) (by kernel_rfl) (by simp) ?_
      refine cons_list rfl (fun K hK => ?_) AllReadyH.nil
      go_simp
      (go_at_call 100; refine (rclean_any _ _).mono ?_; rintro e wm ⟨rfl, rfl⟩)
      refine hK.out _ _ (HB.out) (fun hHeld1 => ?_)
      clear hK K hHeld0
      try simp only [Act.put, List.setIfInBounds_toArray, List.set_cons_zero, List.set_cons_succ]
      refine take_list (i := 4) (v := ?_) rfl (by kernel_rfl) (by kernel_rfl) (by kernel_rfl) (fun _ _ _ h => h) (Or.inl ⟨by rfl, ?_⟩) (by assumption) ?_
      rotate_left
      · (intro w hSw; (try dsimp only at hSw); go_simp; try (with_reducible rfl))
      try simp only [Act.put, List.setIfInBounds_toArray, List.set_cons_zero, List.set_cons_succ]
      refine take_list (i := 5) (v := ?_) rfl (by kernel_rfl) (by kernel_rfl) (by kernel_rfl) (fun _ _ _ h => h) (Or.inl ⟨by rfl, ?_⟩) (by assumption) ?_
      rotate_left
      · (intro w hSw; (try dsimp only at hSw); go_simp; try (with_reducible rfl))
      try simp only [Act.put, List.setIfInBounds_toArray, List.set_cons_zero, List.set_cons_succ]
      refine take_list (i := 6) (v := ?_) rfl (by kernel_rfl) (by kernel_rfl) (by kernel_rfl) (fun _ _ _ h => h) (Or.inl ⟨by rfl, ?_⟩) (by assumption) ?_
      rotate_left
      · (intro w hSw; (try dsimp only at hSw); go_simp; try (with_reducible rfl))
      try simp only [Act.put, List.setIfInBounds_toArray, List.set_cons_zero, List.set_cons_succ]
      refine take_list (i := 7) (v := ?_) rfl (by kernel_rfl) (by kernel_rfl) (by kernel_rfl) (fun _ _ _ h => h) (Or.inl ⟨by rfl, ?_⟩) (by assumption) ?_
      rotate_left
      · (intro w hSw; (try dsimp only at hSw); go_simp; try (with_reducible rfl))
      try simp only [Act.put, List.setIfInBounds_toArray, List.set_cons_zero, List.set_cons_succ]
      refine wpAnyH_done (by kernel_rfl) ?_ _
      clear hHeld1
      go_wp2
      go_ret
      exact ⟨ret_bool HE.out, HB.out⟩
    · have hw : IntKind.i64.wrap 256 = 256 := by rw [IntKind.wrap_i64]; omega
      have hx := HC.out 8 (by decide)
      have hq : (f % 65536).tdiv 256 = f % 65536 / 256 := Int.tdiv_eq_ediv_of_nonneg (by omega)
      have hw2 : IntKind.i64.wrap (f % 65536 / 256) = f % 65536 / 256 := by rw [IntKind.wrap_i64]; omega
      have hr : (f % 65536 / 256).tmod 2 = f % 65536 / 256 % 2 := Int.tmod_eq_emod_of_nonneg (by omega)
      have hw3 : IntKind.i64.wrap (f % 65536 / 256 % 2) = f % 65536 / 256 % 2 := by rw [IntKind.wrap_i64]; omega
      have HE := Lib.hid (show (f % 65536 / 256 % 2 == 1) = hasB f 8 from by rw [Bool.eq_iff_iff]; simp [hasB] <;> omega)
      clear hx
      go_enter Tryz.func79, Tryz.ntmps79
      go_upto_region 3 with fail
      refine wp_region_held_drew (S := (fun wy => Below w.heap.size w wy)) (by kernel_rfl) (HB.out) (fun hHeld0 => ?_)
      refine take_list (i := 0) (v := ?_) rfl (by kernel_rfl) (by kernel_rfl) (by kernel_rfl) (fun _ _ _ h => h) (Or.inl ⟨by rfl, ?_⟩) (by assumption) ?_
      rotate_left
      · (intro w hSw; (try dsimp only at hSw); go_simp; try (with_reducible rfl))
      try simp only [Act.put, List.setIfInBounds_toArray, List.set_cons_zero, List.set_cons_succ]
      refine take_list (i := 2) (v := ?_) rfl (by kernel_rfl) (by kernel_rfl) (by kernel_rfl) (fun _ _ _ h => h) (Or.inl ⟨by rfl, ?_⟩) (by assumption) ?_
      rotate_left
      · (intro w hSw; (try dsimp only at hSw); go_simp; try (with_reducible rfl))
      try simp only [Act.put, List.setIfInBounds_toArray, List.set_cons_zero, List.set_cons_succ]
      refine take_list (i := 3) (v := ?_) rfl (by kernel_rfl) (by kernel_rfl) (by kernel_rfl) (fun _ _ _ h => h) (Or.inl ⟨by rfl, ?_⟩) (by assumption) ?_
      rotate_left
      · (intro w hSw; (try dsimp only at hSw); go_simp; try (with_reducible rfl))
      try simp only [Act.put, List.setIfInBounds_toArray, List.set_cons_zero, List.set_cons_succ]
      refine wpAnyH_ready (rs := [1]) (by kernel_rfl) (by simp) ?_
      refine cons_list rfl (fun K hK => ?_) AllReadyH.nil
      go_simp
      (go_at_call 100; refine (rclean_any _ _).mono ?_; rintro e wm ⟨rfl, rfl⟩)
      refine hK.out _ _ (HB.out) (fun hHeld1 => ?_)
      clear hK K hHeld0
      try simp only [Act.put, List.setIfInBounds_toArray, List.set_cons_zero, List.set_cons_succ]
      refine take_list (i := 4) (v := ?_) rfl (by kernel_rfl) (by kernel_rfl) (by kernel_rfl) (fun _ _ _ h => h) (Or.inl ⟨by rfl, ?_⟩) (by assumption) ?_
      rotate_left
      · (intro w hSw; (try dsimp only at hSw); go_simp; try (with_reducible rfl))
      try simp only [Act.put, List.setIfInBounds_toArray, List.set_cons_zero, List.set_cons_succ]
      refine take_list (i := 5) (v := ?_) rfl (by kernel_rfl) (by kernel_rfl) (by kernel_rfl) (fun _ _ _ h => h) (Or.inl ⟨by rfl, ?_⟩) (by assumption) ?_
      rotate_left
      · (intro w hSw; (try dsimp only at hSw); go_simp; try (with_reducible rfl))
      try simp only [Act.put, List.setIfInBounds_toArray, List.set_cons_zero, List.set_cons_succ]
      refine take_list (i := 6) (v := ?_) rfl (by kernel_rfl) (by kernel_rfl) (by kernel_rfl) (fun _ _ _ h => h) (Or.inl ⟨by rfl, ?_⟩) (by assumption) ?_
      rotate_left
      · (intro w hSw; (try dsimp only at hSw); go_simp; try (with_reducible rfl))
      try simp only [Act.put, List.setIfInBounds_toArray, List.set_cons_zero, List.set_cons_succ]
      refine take_list (i := 7) (v := ?_) rfl (by kernel_rfl) (by kernel_rfl) (by kernel_rfl) (fun _ _ _ h => h) (Or.inl ⟨by rfl, ?_⟩) (by assumption) ?_
      rotate_left
      · (intro w hSw; (try dsimp only at hSw); go_simp; try (with_reducible rfl))
      try simp only [Act.put, List.setIfInBounds_toArray, List.set_cons_zero, List.set_cons_succ]
      refine wpAnyH_done (by kernel_rfl) ?_ _
      clear hHeld1
      go_wp2
      go_ret
      exact ⟨ret_bool HE.out, HB.out⟩
    · have hw : IntKind.i64.wrap 512 = 512 := by rw [IntKind.wrap_i64]; omega
      have hx := HC.out 9 (by decide)
      have hq : (f % 65536).tdiv 512 = f % 65536 / 512 := Int.tdiv_eq_ediv_of_nonneg (by omega)
      have hw2 : IntKind.i64.wrap (f % 65536 / 512) = f % 65536 / 512 := by rw [IntKind.wrap_i64]; omega
      have hr : (f % 65536 / 512).tmod 2 = f % 65536 / 512 % 2 := Int.tmod_eq_emod_of_nonneg (by omega)
      have hw3 : IntKind.i64.wrap (f % 65536 / 512 % 2) = f % 65536 / 512 % 2 := by rw [IntKind.wrap_i64]; omega
      have HE := Lib.hid (show (f % 65536 / 512 % 2 == 1) = hasB f 9 from by rw [Bool.eq_iff_iff]; simp [hasB] <;> omega)
      clear hx
      go_enter Tryz.func79, Tryz.ntmps79
      go_upto_region 3 with fail
      refine wp_region_held_drew (S := (fun wy => Below w.heap.size w wy)) (by kernel_rfl) (HB.out) (fun hHeld0 => ?_)
      refine take_list (i := 0) (v := ?_) rfl (by kernel_rfl) (by kernel_rfl) (by kernel_rfl) (fun _ _ _ h => h) (Or.inl ⟨by rfl, ?_⟩) (by assumption) ?_
      rotate_left
      · (intro w hSw; (try dsimp only at hSw); go_simp; try (with_reducible rfl))
      try simp only [Act.put, List.setIfInBounds_toArray, List.set_cons_zero, List.set_cons_succ]
      refine take_list (i := 2) (v := ?_) rfl (by kernel_rfl) (by kernel_rfl) (by kernel_rfl) (fun _ _ _ h => h) (Or.inl ⟨by rfl, ?_⟩) (by assumption) ?_
      rotate_left
      · (intro w hSw; (try dsimp only at hSw); go_simp; try (with_reducible rfl))
      try simp only [Act.put, List.setIfInBounds_toArray, List.set_cons_zero, List.set_cons_succ]
      refine take_list (i := 3) (v := ?_) rfl (by kernel_rfl) (by kernel_rfl) (by kernel_rfl) (fun _ _ _ h => h) (Or.inl ⟨by rfl, ?_⟩) (by assumption) ?_
      rotate_left
      · (intro w hSw; (try dsimp only at hSw); go_simp; try (with_reducible rfl))
      try simp only [Act.put, List.setIfInBounds_toArray, List.set_cons_zero, List.set_cons_succ]
      refine wpAnyH_ready (rs := [1]) (by kernel_rfl) (by simp) ?_
      refine cons_list rfl (fun K hK => ?_) AllReadyH.nil
      go_simp
      (go_at_call 100; refine (rclean_any _ _).mono ?_; rintro e wm ⟨rfl, rfl⟩)
      refine hK.out _ _ (HB.out) (fun hHeld1 => ?_)
      clear hK K hHeld0
      try simp only [Act.put, List.setIfInBounds_toArray, List.set_cons_zero, List.set_cons_succ]
      refine take_list (i := 4) (v := ?_) rfl (by kernel_rfl) (by kernel_rfl) (by kernel_rfl) (fun _ _ _ h => h) (Or.inl ⟨by rfl, ?_⟩) (by assumption) ?_
      rotate_left
      · (intro w hSw; (try dsimp only at hSw); go_simp; try (with_reducible rfl))
      try simp only [Act.put, List.setIfInBounds_toArray, List.set_cons_zero, List.set_cons_succ]
      refine take_list (i := 5) (v := ?_) rfl (by kernel_rfl) (by kernel_rfl) (by kernel_rfl) (fun _ _ _ h => h) (Or.inl ⟨by rfl, ?_⟩) (by assumption) ?_
      rotate_left
      · (intro w hSw; (try dsimp only at hSw); go_simp; try (with_reducible rfl))
      try simp only [Act.put, List.setIfInBounds_toArray, List.set_cons_zero, List.set_cons_succ]
      refine take_list (i := 6) (v := ?_) rfl (by kernel_rfl) (by kernel_rfl) (by kernel_rfl) (fun _ _ _ h => h) (Or.inl ⟨by rfl, ?_⟩) (by assumption) ?_
      rotate_left
      · (intro w hSw; (try dsimp only at hSw); go_simp; try (with_reducible rfl))
      try simp only [Act.put, List.setIfInBounds_toArray, List.set_cons_zero, List.set_cons_succ]
      refine take_list (i := 7) (v := ?_) rfl (by kernel_rfl) (by kernel_rfl) (by kernel_rfl) (fun _ _ _ h => h) (Or.inl ⟨by rfl, ?_⟩) (by assumption) ?_
      rotate_left
      · (intro w hSw; (try dsimp only at hSw); go_simp; try (with_reducible rfl))
      try simp only [Act.put, List.setIfInBounds_toArray, List.set_cons_zero, List.set_cons_succ]
      refine wpAnyH_done (by kernel_rfl) ?_ _
      clear hHeld1
      go_wp2
      go_ret
      exact ⟨ret_bool HE.out, HB.out⟩
    · have hw : IntKind.i64.wrap 1024 = 1024 := by rw [IntKind.wrap_i64]; omega
      have hx := HC.out 10 (by decide)
      have hq : (f % 65536).tdiv 1024 = f % 65536 / 1024 := Int.tdiv_eq_ediv_of_nonneg (by omega)
      have hw2 : IntKind.i64.wrap (f % 65536 / 1024) = f % 65536 / 1024 := by rw [IntKind.wrap_i64]; omega
      have hr : (f % 65536 / 1024).tmod 2 = f % 65536 / 1024 % 2 := Int.tmod_eq_emod_of_nonneg (by omega)
      have hw3 : IntKind.i64.wrap (f % 65536 / 1024 % 2) = f % 65536 / 1024 % 2 := by rw [IntKind.wrap_i64]; omega
      have HE := Lib.hid (show (f % 65536 / 1024 % 2 == 1) = hasB f 10 from by rw [Bool.eq_iff_iff]; simp [hasB] <;> omega)
      clear hx
      go_enter Tryz.func79, Tryz.ntmps79
      go_upto_region 3 with fail
      refine wp_region_held_drew (S := (fun wy => Below w.heap.size w wy)) (by kernel_rfl) (HB.out) (fun hHeld0 => ?_)
      refine take_list (i := 0) (v := ?_) rfl (by kernel_rfl) (by kernel_rfl) (by kernel_rfl) (fun _ _ _ h => h) (Or.inl ⟨by rfl, ?_⟩) (by assumption) ?_
      rotate_left
      · (intro w hSw; (try dsimp only at hSw); go_simp; try (with_reducible rfl))
      try simp only [Act.put, List.setIfInBounds_toArray, List.set_cons_zero, List.set_cons_succ]
      refine take_list (i := 2) (v := ?_) rfl (by kernel_rfl) (by kernel_rfl) (by kernel_rfl) (fun _ _ _ h => h) (Or.inl ⟨by rfl, ?_⟩) (by assumption) ?_
      rotate_left
      · (intro w hSw; (try dsimp only at hSw); go_simp; try (with_reducible rfl))
      try simp only [Act.put, List.setIfInBounds_toArray, List.set_cons_zero, List.set_cons_succ]
      refine take_list (i := 3) (v := ?_) rfl (by kernel_rfl) (by kernel_rfl) (by kernel_rfl) (fun _ _ _ h => h) (Or.inl ⟨by rfl, ?_⟩) (by assumption) ?_
      rotate_left
      · (intro w hSw; (try dsimp only at hSw); go_simp; try (with_reducible rfl))
      try simp only [Act.put, List.setIfInBounds_toArray, List.set_cons_zero, List.set_cons_succ]
      refine wpAnyH_ready (rs := [1]) (by kernel_rfl) (by simp) ?_
      refine cons_list rfl (fun K hK => ?_) AllReadyH.nil
      go_simp
      (go_at_call 100; refine (rclean_any _ _).mono ?_; rintro e wm ⟨rfl, rfl⟩)
      refine hK.out _ _ (HB.out) (fun hHeld1 => ?_)
      clear hK K hHeld0
      try simp only [Act.put, List.setIfInBounds_toArray, List.set_cons_zero, List.set_cons_succ]
      refine take_list (i := 4) (v := ?_) rfl (by kernel_rfl) (by kernel_rfl) (by kernel_rfl) (fun _ _ _ h => h) (Or.inl ⟨by rfl, ?_⟩) (by assumption) ?_
      rotate_left
      · (intro w hSw; (try dsimp only at hSw); go_simp; try (with_reducible rfl))
      try simp only [Act.put, List.setIfInBounds_toArray, List.set_cons_zero, List.set_cons_succ]
      refine take_list (i := 5) (v := ?_) rfl (by kernel_rfl) (by kernel_rfl) (by kernel_rfl) (fun _ _ _ h => h) (Or.inl ⟨by rfl, ?_⟩) (by assumption) ?_
      rotate_left
      · (intro w hSw; (try dsimp only at hSw); go_simp; try (with_reducible rfl))
      try simp only [Act.put, List.setIfInBounds_toArray, List.set_cons_zero, List.set_cons_succ]
      refine take_list (i := 6) (v := ?_) rfl (by kernel_rfl) (by kernel_rfl) (by kernel_rfl) (fun _ _ _ h => h) (Or.inl ⟨by rfl, ?_⟩) (by assumption) ?_
      rotate_left
      · (intro w hSw; (try dsimp only at hSw); go_simp; try (with_reducible rfl))
      try simp only [Act.put, List.setIfInBounds_toArray, List.set_cons_zero, List.set_cons_succ]
      refine take_list (i := 7) (v := ?_) rfl (by kernel_rfl) (by kernel_rfl) (by kernel_rfl) (fun _ _ _ h => h) (Or.inl ⟨by rfl, ?_⟩) (by assumption) ?_
      rotate_left
      · (intro w hSw; (try dsimp only at hSw); go_simp; try (with_reducible rfl))
      try simp only [Act.put, List.setIfInBounds_toArray, List.set_cons_zero, List.set_cons_succ]
      refine wpAnyH_done (by kernel_rfl) ?_ _
      clear hHeld1
      go_wp2
      go_ret
      exact ⟨ret_bool HE.out, HB.out⟩
    · have hw : IntKind.i64.wrap 2048 = 2048 := by rw [IntKind.wrap_i64]; omega
      have hx := HC.out 11 (by decide)
      have hq : (f % 65536).tdiv 2048 = f % 65536 / 2048 := Int.tdiv_eq_ediv_of_nonneg (by omega)
      have hw2 : IntKind.i64.wrap (f % 65536 / 2048) = f % 65536 / 2048 := by rw [IntKind.wrap_i64]; omega
      have hr : (f % 65536 / 2048).tmod 2 = f % 65536 / 2048 % 2 := Int.tmod_eq_emod_of_nonneg (by omega)
      have hw3 : IntKind.i64.wrap (f % 65536 / 2048 % 2) = f % 65536 / 2048 % 2 := by rw [IntKind.wrap_i64]; omega
      have HE := Lib.hid (show (f % 65536 / 2048 % 2 == 1) = hasB f 11 from by rw [Bool.eq_iff_iff]; simp [hasB] <;> omega)
      clear hx
      go_enter Tryz.func79, Tryz.ntmps79
      go_upto_region 3 with fail
      refine wp_region_held_drew (S := (fun wy => Below w.heap.size w wy)) (by kernel_rfl) (HB.out) (fun hHeld0 => ?_)
      refine take_list (i := 0) (v := ?_) rfl (by kernel_rfl) (by kernel_rfl) (by kernel_rfl) (fun _ _ _ h => h) (Or.inl ⟨by rfl, ?_⟩) (by assumption) ?_
      rotate_left
      · (intro w hSw; (try dsimp only at hSw); go_simp; try (with_reducible rfl))
      try simp only [Act.put, List.setIfInBounds_toArray, List.set_cons_zero, List.set_cons_succ]
      refine take_list (i := 2) (v := ?_) rfl (by kernel_rfl) (by kernel_rfl) (by kernel_rfl) (fun _ _ _ h => h) (Or.inl ⟨by rfl, ?_⟩) (by assumption) ?_
      rotate_left
      · (intro w hSw; (try dsimp only at hSw); go_simp; try (with_reducible rfl))
      try simp only [Act.put, List.setIfInBounds_toArray, List.set_cons_zero, List.set_cons_succ]
      refine take_list (i := 3) (v := ?_) rfl (by kernel_rfl) (by kernel_rfl) (by kernel_rfl) (fun _ _ _ h => h) (Or.inl ⟨by rfl, ?_⟩) (by assumption) ?_
      rotate_left
      · (intro w hSw; (try dsimp only at hSw); go_simp; try (with_reducible rfl))
      try simp only [Act.put, List.setIfInBounds_toArray, List.set_cons_zero, List.set_cons_succ]
      refine wpAnyH_ready (rs := [1]) (by kernel_rfl) (by simp) ?_
      refine cons_list rfl (fun K hK => ?_) AllReadyH.nil
      go_simp
      (go_at_call 100; refine (rclean_any _ _).mono ?_; rintro e wm ⟨rfl, rfl⟩)
      refine hK.out _ _ (HB.out) (fun hHeld1 => ?_)
      clear hK K hHeld0
      try simp only [Act.put, List.setIfInBounds_toArray, List.set_cons_zero, List.set_cons_succ]
      refine take_list (i := 4) (v := ?_) rfl (by kernel_rfl) (by kernel_rfl) (by kernel_rfl) (fun _ _ _ h => h) (Or.inl ⟨by rfl, ?_⟩) (by assumption) ?_
      rotate_left
      · (intro w hSw; (try dsimp only at hSw); go_simp; try (with_reducible rfl))
      try simp only [Act.put, List.setIfInBounds_toArray, List.set_cons_zero, List.set_cons_succ]
      refine take_list (i := 5) (v := ?_) rfl (by kernel_rfl) (by kernel_rfl) (by kernel_rfl) (fun _ _ _ h => h) (Or.inl ⟨by rfl, ?_⟩) (by assumption) ?_
      rotate_left
      · (intro w hSw; (try dsimp only at hSw); go_simp; try (with_reducible rfl))
      try simp only [Act.put, List.setIfInBounds_toArray, List.set_cons_zero, List.set_cons_succ]
      refine take_list (i := 6) (v := ?_) rfl (by kernel_rfl) (by kernel_rfl) (by kernel_rfl) (fun _ _ _ h => h) (Or.inl ⟨by rfl, ?_⟩) (by assumption) ?_
      rotate_left
      · (intro w hSw; (try dsimp only at hSw); go_simp; try (with_reducible rfl))
      try simp only [Act.put, List.setIfInBounds_toArray, List.set_cons_zero, List.set_cons_succ]
      refine take_list (i := 7) (v := ?_) rfl (by kernel_rfl) (by kernel_rfl) (by kernel_rfl) (fun _ _ _ h => h) (Or.inl ⟨by rfl, ?_⟩) (by assumption) ?_
      rotate_left
      · (intro w hSw; (try dsimp only at hSw); go_simp; try (with_reducible rfl))
      try simp only [Act.put, List.setIfInBounds_toArray, List.set_cons_zero, List.set_cons_succ]
      refine wpAnyH_done (by kernel_rfl) ?_ _
      clear hHeld1
      go_wp2
      go_ret
      exact ⟨ret_bool HE.out, HB.out⟩
    · have hw : IntKind.i64.wrap 4096 = 4096 := by rw [IntKind.wrap_i64]; omega
      have hx := HC.out 12 (by decide)
      have hq : (f % 65536).tdiv 4096 = f % 65536 / 4096 := Int.tdiv_eq_ediv_of_nonneg (by omega)
      have hw2 : IntKind.i64.wrap (f % 65536 / 4096) = f % 65536 / 4096 := by rw [IntKind.wrap_i64]; omega
      have hr : (f % 65536 / 4096).tmod 2 = f % 65536 / 4096 % 2 := Int.tmod_eq_emod_of_nonneg (by omega)
      have hw3 : IntKind.i64.wrap (f % 65536 / 4096 % 2) = f % 65536 / 4096 % 2 := by rw [IntKind.wrap_i64]; omega
      have HE := Lib.hid (show (f % 65536 / 4096 % 2 == 1) = hasB f 12 from by rw [Bool.eq_iff_iff]; simp [hasB] <;> omega)
      clear hx
      go_enter Tryz.func79, Tryz.ntmps79
      go_upto_region 3 with fail
      refine wp_region_held_drew (S := (fun wy => Below w.heap.size w wy)) (by kernel_rfl) (HB.out) (fun hHeld0 => ?_)
      refine take_list (i := 0) (v := ?_) rfl (by kernel_rfl) (by kernel_rfl) (by kernel_rfl) (fun _ _ _ h => h) (Or.inl ⟨by rfl, ?_⟩) (by assumption) ?_
      rotate_left
      · (intro w hSw; (try dsimp only at hSw); go_simp; try (with_reducible rfl))
      try simp only [Act.put, List.setIfInBounds_toArray, List.set_cons_zero, List.set_cons_succ]
      refine take_list (i := 2) (v := ?_) rfl (by kernel_rfl) (by kernel_rfl) (by kernel_rfl) (fun _ _ _ h => h) (Or.inl ⟨by rfl, ?_⟩) (by assumption) ?_
      rotate_left
      · (intro w hSw; (try dsimp only at hSw); go_simp; try (with_reducible rfl))
      try simp only [Act.put, List.setIfInBounds_toArray, List.set_cons_zero, List.set_cons_succ]
      refine take_list (i := 3) (v := ?_) rfl (by kernel_rfl) (by kernel_rfl) (by kernel_rfl) (fun _ _ _ h => h) (Or.inl ⟨by rfl, ?_⟩) (by assumption) ?_
      rotate_left
      · (intro w hSw; (try dsimp only at hSw); go_simp; try (with_reducible rfl))
      try simp only [Act.put, List.setIfInBounds_toArray, List.set_cons_zero, List.set_cons_succ]
      refine wpAnyH_ready (rs := [1]) (by kernel_rfl) (by simp) ?_
      refine cons_list rfl (fun K hK => ?_) AllReadyH.nil
      go_simp
      (go_at_call 100; refine (rclean_any _ _).mono ?_; rintro e wm ⟨rfl, rfl⟩)
      refine hK.out _ _ (HB.out) (fun hHeld1 => ?_)
      clear hK K hHeld0
      try simp only [Act.put, List.setIfInBounds_toArray, List.set_cons_zero, List.set_cons_succ]
      refine take_list (i := 4) (v := ?_) rfl (by kernel_rfl) (by kernel_rfl) (by kernel_rfl) (fun _ _ _ h => h) (Or.inl ⟨by rfl, ?_⟩) (by assumption) ?_
      rotate_left
      · (intro w hSw; (try dsimp only at hSw); go_simp; try (with_reducible rfl))
      try simp only [Act.put, List.setIfInBounds_toArray, List.set_cons_zero, List.set_cons_succ]
      refine take_list (i := 5) (v := ?_) rfl (by kernel_rfl) (by kernel_rfl) (by kernel_rfl) (fun _ _ _ h => h) (Or.inl ⟨by rfl, ?_⟩) (by assumption) ?_
      rotate_left
      · (intro w hSw; (try dsimp only at hSw); go_simp; try (with_reducible rfl))
      try simp only [Act.put, List.setIfInBounds_toArray, List.set_cons_zero, List.set_cons_succ]
      refine take_list (i := 6) (v := ?_) rfl (by kernel_rfl) (by kernel_rfl) (by kernel_rfl) (fun _ _ _ h => h) (Or.inl ⟨by rfl, ?_⟩) (by assumption) ?_
      rotate_left
      · (intro w hSw; (try dsimp only at hSw); go_simp; try (with_reducible rfl))
      try simp only [Act.put, List.setIfInBounds_toArray, List.set_cons_zero, List.set_cons_succ]
      refine take_list (i := 7) (v := ?_) rfl (by kernel_rfl) (by kernel_rfl) (by kernel_rfl) (fun _ _ _ h => h) (Or.inl ⟨by rfl, ?_⟩) (by assumption) ?_
      rotate_left
      · (intro w hSw; (try dsimp only at hSw); go_simp; try (with_reducible rfl))
      try simp only [Act.put, List.setIfInBounds_toArray, List.set_cons_zero, List.set_cons_succ]
      refine wpAnyH_done (by kernel_rfl) ?_ _
      clear hHeld1
      go_wp2
      go_ret
      exact ⟨ret_bool HE.out, HB.out⟩
    · have hw : IntKind.i64.wrap 8192 = 8192 := by rw [IntKind.wrap_i64]; omega
      have hx := HC.out 13 (by decide)
      have hq : (f % 65536).tdiv 8192 = f % 65536 / 8192 := Int.tdiv_eq_ediv_of_nonneg (by omega)
      have hw2 : IntKind.i64.wrap (f % 65536 / 8192) = f % 65536 / 8192 := by rw [IntKind.wrap_i64]; omega
      have hr : (f % 65536 / 8192).tmod 2 = f % 65536 / 8192 % 2 := Int.tmod_eq_emod_of_nonneg (by omega)
      have hw3 : IntKind.i64.wrap (f % 65536 / 8192 % 2) = f % 65536 / 8192 % 2 := by rw [IntKind.wrap_i64]; omega
      have HE := Lib.hid (show (f % 65536 / 8192 % 2 == 1) = hasB f 13 from by rw [Bool.eq_iff_iff]; simp [hasB] <;> omega)
      clear hx
      go_enter Tryz.func79, Tryz.ntmps79
      go_upto_region 3 with fail
      refine wp_region_held_drew (S := (fun wy => Below w.heap.size w wy)) (by kernel_rfl) (HB.out) (fun hHeld0 => ?_)
      refine take_list (i := 0) (v := ?_) rfl (by kernel_rfl) (by kernel_rfl) (by kernel_rfl) (fun _ _ _ h => h) (Or.inl ⟨by rfl, ?_⟩) (by assumption) ?_
      rotate_left
      · (intro w hSw; (try dsimp only at hSw); go_simp; try (with_reducible rfl))
      try simp only [Act.put, List.setIfInBounds_toArray, List.set_cons_zero, List.set_cons_succ]
      refine take_list (i := 2) (v := ?_) rfl (by kernel_rfl) (by kernel_rfl) (by kernel_rfl) (fun _ _ _ h => h) (Or.inl ⟨by rfl, ?_⟩) (by assumption) ?_
      rotate_left
      · (intro w hSw; (try dsimp only at hSw); go_simp; try (with_reducible rfl))
      try simp only [Act.put, List.setIfInBounds_toArray, List.set_cons_zero, List.set_cons_succ]
      refine take_list (i := 3) (v := ?_) rfl (by kernel_rfl) (by kernel_rfl) (by kernel_rfl) (fun _ _ _ h => h) (Or.inl ⟨by rfl, ?_⟩) (by assumption) ?_
      rotate_left
      · (intro w hSw; (try dsimp only at hSw); go_simp; try (with_reducible rfl))
      try simp only [Act.put, List.setIfInBounds_toArray, List.set_cons_zero, List.set_cons_succ]
      refine wpAnyH_ready (rs := [1]) (by kernel_rfl) (by simp) ?_
      refine cons_list rfl (fun K hK => ?_) AllReadyH.nil
      go_simp
      (go_at_call 100; refine (rclean_any _ _).mono ?_; rintro e wm ⟨rfl, rfl⟩)
      refine hK.out _ _ (HB.out) (fun hHeld1 => ?_)
      clear hK K hHeld0
      try simp only [Act.put, List.setIfInBounds_toArray, List.set_cons_zero, List.set_cons_succ]
      refine take_list (i := 4) (v := ?_) rfl (by kernel_rfl) (by kernel_rfl) (by kernel_rfl) (fun _ _ _ h => h) (Or.inl ⟨by rfl, ?_⟩) (by assumption) ?_
      rotate_left
      · (intro w hSw; (try dsimp only at hSw); go_simp; try (with_reducible rfl))
      try simp only [Act.put, List.setIfInBounds_toArray, List.set_cons_zero, List.set_cons_succ]
      refine take_list (i := 5) (v := ?_) rfl (by kernel_rfl) (by kernel_rfl) (by kernel_rfl) (fun _ _ _ h => h) (Or.inl ⟨by rfl, ?_⟩) (by assumption) ?_
      rotate_left
      · (intro w hSw; (try dsimp only at hSw); go_simp; try (with_reducible rfl))
      try simp only [Act.put, List.setIfInBounds_toArray, List.set_cons_zero, List.set_cons_succ]
      refine take_list (i := 6) (v := ?_) rfl (by kernel_rfl) (by kernel_rfl) (by kernel_rfl) (fun _ _ _ h => h) (Or.inl ⟨by rfl, ?_⟩) (by assumption) ?_
      rotate_left
      · (intro w hSw; (try dsimp only at hSw); go_simp; try (with_reducible rfl))
      try simp only [Act.put, List.setIfInBounds_toArray, List.set_cons_zero, List.set_cons_succ]
      refine take_list (i := 7) (v := ?_) rfl (by kernel_rfl) (by kernel_rfl) (by kernel_rfl) (fun _ _ _ h => h) (Or.inl ⟨by rfl, ?_⟩) (by assumption) ?_
      rotate_left
      · (intro w hSw; (try dsimp only at hSw); go_simp; try (with_reducible rfl))
      try simp only [Act.put, List.setIfInBounds_toArray, List.set_cons_zero, List.set_cons_succ]
      refine wpAnyH_done (by kernel_rfl) ?_ _
      clear hHeld1
      go_wp2
      go_ret
      exact ⟨ret_bool HE.out, HB.out⟩
    · have hw : IntKind.i64.wrap 16384 = 16384 := by rw [IntKind.wrap_i64]; omega
      have hx := HC.out 14 (by decide)
      have hq : (f % 65536).tdiv 16384 = f % 65536 / 16384 := Int.tdiv_eq_ediv_of_nonneg (by omega)
      have hw2 : IntKind.i64.wrap (f % 65536 / 16384) = f % 65536 / 16384 := by rw [IntKind.wrap_i64]; omega
      have hr : (f % 65536 / 16384).tmod 2 = f % 65536 / 16384 % 2 := Int.tmod_eq_emod_of_nonneg (by omega)
      have hw3 : IntKind.i64.wrap (f % 65536 / 16384 % 2) = f % 65536 / 16384 % 2 := by rw [IntKind.wrap_i64]; omega
      have HE := Lib.hid (show (f % 65536 / 16384 % 2 == 1) = hasB f 14 from by rw [Bool.eq_iff_iff]; simp [hasB] <;> omega)
      clear hx
      go_enter Tryz.func79, Tryz.ntmps79
      go_upto_region 3 with fail
      refine wp_region_held_drew (S := (fun wy => Below w.heap.size w wy)) (by kernel_rfl) (HB.out) (fun hHeld0 => ?_)
      refine take_list (i := 0) (v := ?_) rfl (by kernel_rfl) (by kernel_rfl) (by kernel_rfl) (fun _ _ _ h => h) (Or.inl ⟨by rfl, ?_⟩) (by assumption) ?_
      rotate_left
      · (intro w hSw; (try dsimp only at hSw); go_simp; try (with_reducible rfl))
      try simp only [Act.put, List.setIfInBounds_toArray, List.set_cons_zero, List.set_cons_succ]
      refine take_list (i := 2) (v := ?_) rfl (by kernel_rfl) (by kernel_rfl) (by kernel_rfl) (fun _ _ _ h => h) (Or.inl ⟨by rfl, ?_⟩) (by assumption) ?_
      rotate_left
      · (intro w hSw; (try dsimp only at hSw); go_simp; try (with_reducible rfl))
      try simp only [Act.put, List.setIfInBounds_toArray, List.set_cons_zero, List.set_cons_succ]
      refine take_list (i := 3) (v := ?_) rfl (by kernel_rfl) (by kernel_rfl) (by kernel_rfl) (fun _ _ _ h => h) (Or.inl ⟨by rfl, ?_⟩) (by assumption) ?_
      rotate_left
      · (intro w hSw; (try dsimp only at hSw); go_simp; try (with_reducible rfl))
      try simp only [Act.put, List.setIfInBounds_toArray, List.set_cons_zero, List.set_cons_succ]
      refine wpAnyH_ready (rs := [1]) (by kernel_rfl) (by simp) ?_
      refine cons_list rfl (fun K hK => ?_) AllReadyH.nil
      go_simp
      (go_at_call 100; refine (rclean_any _ _).mono ?_; rintro e wm ⟨rfl, rfl⟩)
      refine hK.out _ _ (HB.out) (fun hHeld1 => ?_)
      clear hK K hHeld0
      try simp only [Act.put, List.setIfInBounds_toArray, List.set_cons_zero, List.set_cons_succ]
      refine take_list (i := 4) (v := ?_) rfl (by kernel_rfl) (by kernel_rfl) (by kernel_rfl) (fun _ _ _ h => h) (Or.inl ⟨by rfl, ?_⟩) (by assumption) ?_
      rotate_left
      · (intro w hSw; (try dsimp only at hSw); go_simp; try (with_reducible rfl))
      try simp only [Act.put, List.setIfInBounds_toArray, List.set_cons_zero, List.set_cons_succ]
      refine take_list (i := 5) (v := ?_) rfl (by kernel_rfl) (by kernel_rfl) (by kernel_rfl) (fun _ _ _ h => h) (Or.inl ⟨by rfl, ?_⟩) (by assumption) ?_
      rotate_left
      · (intro w hSw; (try dsimp only at hSw); go_simp; try (with_reducible rfl))
      try simp only [Act.put, List.setIfInBounds_toArray, List.set_cons_zero, List.set_cons_succ]
      refine take_list (i := 6) (v := ?_) rfl (by kernel_rfl) (by kernel_rfl) (by kernel_rfl) (fun _ _ _ h => h) (Or.inl ⟨by rfl, ?_⟩) (by assumption) ?_
      rotate_left
      · (intro w hSw; (try dsimp only at hSw); go_simp; try (with_reducible rfl))
      try simp only [Act.put, List.setIfInBounds_toArray, List.set_cons_zero, List.set_cons_succ]
      refine take_list (i := 7) (v := ?_) rfl (by kernel_rfl) (by kernel_rfl) (by kernel_rfl) (fun _ _ _ h => h) (Or.inl ⟨by rfl, ?_⟩) (by assumption) ?_
      rotate_left
      · (intro w hSw; (try dsimp only at hSw); go_simp; try (with_reducible rfl))
      try simp only [Act.put, List.setIfInBounds_toArray, List.set_cons_zero, List.set_cons_succ]
      refine wpAnyH_done (by kernel_rfl) ?_ _
      clear hHeld1
      go_wp2
      go_ret
      exact ⟨ret_bool HE.out, HB.out⟩
    · have hw : IntKind.i64.wrap 32768 = 32768 := by rw [IntKind.wrap_i64]; omega
      have hx := HC.out 15 (by decide)
      have hq : (f % 65536).tdiv 32768 = f % 65536 / 32768 := Int.tdiv_eq_ediv_of_nonneg (by omega)
      have hw2 : IntKind.i64.wrap (f % 65536 / 32768) = f % 65536 / 32768 := by rw [IntKind.wrap_i64]; omega
      have hr : (f % 65536 / 32768).tmod 2 = f % 65536 / 32768 % 2 := Int.tmod_eq_emod_of_nonneg (by omega)
      have hw3 : IntKind.i64.wrap (f % 65536 / 32768 % 2) = f % 65536 / 32768 % 2 := by rw [IntKind.wrap_i64]; omega
      have HE := Lib.hid (show (f % 65536 / 32768 % 2 == 1) = hasB f 15 from by rw [Bool.eq_iff_iff]; simp [hasB] <;> omega)
      clear hx
      go_enter Tryz.func79, Tryz.ntmps79
      go_upto_region 3 with fail
      refine wp_region_held_drew (S := (fun wy => Below w.heap.size w wy)) (by kernel_rfl) (HB.out) (fun hHeld0 => ?_)
      refine take_list (i := 0) (v := ?_) rfl (by kernel_rfl) (by kernel_rfl) (by kernel_rfl) (fun _ _ _ h => h) (Or.inl ⟨by rfl, ?_⟩) (by assumption) ?_
      rotate_left
      · (intro w hSw; (try dsimp only at hSw); go_simp; try (with_reducible rfl))
      try simp only [Act.put, List.setIfInBounds_toArray, List.set_cons_zero, List.set_cons_succ]
      refine take_list (i := 2) (v := ?_) rfl (by kernel_rfl) (by kernel_rfl) (by kernel_rfl) (fun _ _ _ h => h) (Or.inl ⟨by rfl, ?_⟩) (by assumption) ?_
      rotate_left
      · (intro w hSw; (try dsimp only at hSw); go_simp; try (with_reducible rfl))
      try simp only [Act.put, List.setIfInBounds_toArray, List.set_cons_zero, List.set_cons_succ]
      refine take_list (i := 3) (v := ?_) rfl (by kernel_rfl) (by kernel_rfl) (by kernel_rfl) (fun _ _ _ h => h) (Or.inl ⟨by rfl, ?_⟩) (by assumption) ?_
      rotate_left
      · (intro w hSw; (try dsimp only at hSw); go_simp; try (with_reducible rfl))
      try simp only [Act.put, List.setIfInBounds_toArray, List.set_cons_zero, List.set_cons_succ]
      refine wpAnyH_ready (rs := [1]) (by kernel_rfl) (by simp) ?_
      refine cons_list rfl (fun K hK => ?_) AllReadyH.nil
      go_simp
      (go_at_call 100; refine (rclean_any _ _).mono ?_; rintro e wm ⟨rfl, rfl⟩)
      refine hK.out _ _ (HB.out) (fun hHeld1 => ?_)
      clear hK K hHeld0
      try simp only [Act.put, List.setIfInBounds_toArray, List.set_cons_zero, List.set_cons_succ]
      refine take_list (i := 4) (v := ?_) rfl (by kernel_rfl) (by kernel_rfl) (by kernel_rfl) (fun _ _ _ h => h) (Or.inl ⟨by rfl, ?_⟩) (by assumption) ?_
      rotate_left
      · (intro w hSw; (try dsimp only at hSw); go_simp; try (with_reducible rfl))
      try simp only [Act.put, List.setIfInBounds_toArray, List.set_cons_zero, List.set_cons_succ]
      refine take_list (i := 5) (v := ?_) rfl (by kernel_rfl) (by kernel_rfl) (by kernel_rfl) (fun _ _ _ h => h) (Or.inl ⟨by rfl, ?_⟩) (by assumption) ?_
      rotate_left
      · (intro w hSw; (try dsimp only at hSw); go_simp; try (with_reducible rfl))
      try simp only [Act.put, List.setIfInBounds_toArray, List.set_cons_zero, List.set_cons_succ]
      refine take_list (i := 6) (v := ?_) rfl (by kernel_rfl) (by kernel_rfl) (by kernel_rfl) (fun _ _ _ h => h) (Or.inl ⟨by rfl, ?_⟩) (by assumption) ?_
      rotate_left
      · (intro w hSw; (try dsimp only at hSw); go_simp; try (with_reducible rfl))
      try simp only [Act.put, List.setIfInBounds_toArray, List.set_cons_zero, List.set_cons_succ]
      refine take_list (i := 7) (v := ?_) rfl (by kernel_rfl) (by kernel_rfl) (by kernel_rfl) (fun _ _ _ h => h) (Or.inl ⟨by rfl, ?_⟩) (by assumption) ?_
      rotate_left
      · (intro w hSw; (try dsimp only at hSw); go_simp; try (with_reducible rfl))
      try simp only [Act.put, List.setIfInBounds_toArray, List.set_cons_zero, List.set_cons_succ]
      refine wpAnyH_done (by kernel_rfl) ?_ _
      clear hHeld1
      go_wp2
      go_ret
      exact ⟨ret_bool HE.out, HB.out⟩
  · have hb : decide (0 ≤ n ∧ n < 16) = false := by simpa using h
    have HF := Lib.hid (show hasB f n = false from by unfold hasB; rw [hb]; rfl)
    clear hb
    by_cases h0 : n < 0
    · have h0' : decide (n < 0) = true := decide_eq_true h0
      clear h0
      go_enter Tryz.func79, Tryz.ntmps79
      go_wp2
      go_ret
      exact ⟨ret_bool HF.out.symm, Below.refl _ _⟩
    · have h0' : decide (n < 0) = false := decide_eq_false h0
      have h1' : decide (16 ≤ n) = true := decide_eq_true (by omega)
      clear h0 h
      go_enter Tryz.func79, Tryz.ntmps79
      go_wp2
      go_ret
      exact ⟨ret_bool HF.out.symm, Below.refl _ _⟩
end Go.Proofs.YtakolnmoieiicaaGreat

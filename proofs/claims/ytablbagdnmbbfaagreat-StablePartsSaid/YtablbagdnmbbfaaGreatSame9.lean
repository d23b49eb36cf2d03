/- What backstayref09.Same answers. -/
import Derived.Test.YtablbagdnmbbfaaGreatRefA
import Derived.Test.YtablbagdnmbbfaaGreatRts
import Derived.Test.YtablbagdnmbbfaaGreatRegs
namespace Go.Proofs.YtablbagdnmbbfaaGreat
set_option linter.unusedSimpArgs false
set_option linter.unusedVariables false
open Go.RowKit

attribute [local go_sem ↓] Go.wp_at_zero Go.wp_at_succ
set_option maxRecDepth 100000 in
set_option maxHeartbeats 2000000 in
theorem refSame9_any (Z Y : List RtZ) (A A' : Option Addr) (c c' : Nat) (w : World) (h : RtsR w w.heap.size Z A) (h' : RtsR w w.heap.size Y A') (hl : Z.length ≤ 1000) (hm : Y.length ≤ 1000) :
    Calls Tryz.prog 18 #[.slice A Z.length c, .slice A' Y.length c'] w fun e w' => e = .returned (.bool (decide (Z.map (·.1) = Y.map (·.1)))) ∧ Below w.heap.size w w' := by
  have H := Lib.hid h
  have H' := Lib.hid h'
  clear h h'
  by_cases he : Z.length = Y.length
  · have hq : ((Z.length : Int) != (Y.length : Int)) = false := by simp [he]
    have HE := Lib.hid he
    clear he
    go_enter Tryz.func18, Tryz.ntmps18
    go_wp2_with fail
    go_loopw [5] (fun si wx => ∃ k : Nat, k ≤ Z.length ∧ si = .int .i64 k ∧ (Z.map (·.1)).take k = (Y.map (·.1)).take k ∧ Below w.heap.size w wx) (fun si _ => Z.length - (intOf si).toNat)
    case atStart => exact ⟨0, Nat.zero_le _, rfl, rfl, Below.refl _ _⟩
    case round =>
      obtain ⟨k, hk, rfl, htk, hB⟩ := hrel
      have TK := Lib.hid htk
      have BX := Lib.hid hB
      by_cases hlt : k < Z.length
      · obtain ⟨z, hz⟩ : ∃ z, Z[k]? = some z := ⟨_, List.getElem?_eq_getElem hlt⟩
        obtain ⟨y, hy⟩ : ∃ y, Y[k]? = some y := ⟨_, List.getElem?_eq_getElem (by have := HE.out; omega)⟩
        obtain ⟨b, o, rfl, hb, z0, z1, z2⟩ := H.out.at_ hz
        obtain ⟨b', o', rfl, hb', y0, y1, y2⟩ := H'.out.at_ hy
        have HRZ := Lib.hid (H.out.each z (List.mem_of_getElem? hz))
        have HRY := Lib.hid (H'.out.each y (List.mem_of_getElem? hy))
        have ez : (Z.map (·.1))[k]? = some z.1 := by rw [List.getElem?_map, hz]; rfl
        have ey : (Y.map (·.1))[k]? = some y.1 := by rw [List.getElem?_map, hy]; rfl
        have HS : Hid (z.1 = y.1 → (Z.map (·.1)).take (k + 1) = (Y.map (·.1)).take (k + 1)) := Lib.hid (fun e => by
          rw [List.take_add_one, List.take_add_one, ez, ey, TK.out, e])
        have HN : Hid (z.1 ≠ y.1 → Z.map (·.1) ≠ Y.map (·.1)) := Lib.hid (fun e e' => by
          rw [e', ey] at ez; injection ez with ez; exact e ez.symm)
        have HC : Hid (∀ wy, Below w.heap.size w wy → (wy.cell? ⟨b, o + k * 3, none⟩ = some (.int .i64 z.1.kind) ∧ wy.cell? ⟨b, o + k * 3 + 1, none⟩ = some (.int .i64 z.1.cost) ∧ wy.cell? ⟨b, o + k * 3 + 2, none⟩ = some (.slice z.2.1 z.1.path.length z.2.2)) ∧ wy.cell? ⟨b', o' + k * 3, none⟩ = some (.int .i64 y.1.kind) ∧ wy.cell? ⟨b', o' + k * 3 + 1, none⟩ = some (.int .i64 y.1.cost) ∧ wy.cell? ⟨b', o' + k * 3 + 2, none⟩ = some (.slice y.2.1 y.1.path.length y.2.2)) := Lib.hid (fun wy hb2 =>
          ⟨⟨(hb2.cell (p := ⟨b, _, none⟩) hb).trans z0, (hb2.cell (p := ⟨b, _, none⟩) hb).trans z1, (hb2.cell (p := ⟨b, _, none⟩) hb).trans z2⟩, (hb2.cell (p := ⟨b', _, none⟩) hb').trans y0, (hb2.cell (p := ⟨b', _, none⟩) hb').trans y1, (hb2.cell (p := ⟨b', _, none⟩) hb').trans y2⟩)
        have CS : Hid (∀ wy, Below w.heap.size w wy → Calls Tryz.prog 37 #[.agg #[.int .i64 z.1.kind, .int .i64 z.1.cost, .slice z.2.1 z.1.path.length z.2.2], .agg #[.int .i64 y.1.kind, .int .i64 y.1.cost, .slice y.2.1 y.1.path.length y.2.2]] wy fun e w' => e = .returned (.bool (decide (z.1 = y.1))) ∧ Below w.heap.size w w') := Lib.hid (fun wy hb2 =>
          (refSame_any z.1 y.1 z.2.1 y.2.1 z.2.2 y.2.2 wy ((HRZ.out.below hb2 (Nat.le_refl _)).more hb2.size) ((HRY.out.below hb2 (Nat.le_refl _)).more hb2.size)).mono fun e w' ⟨h1, h2⟩ => ⟨h1, since_trans hb2 h2⟩)
        have HQ : Hid ((decide (z.1 = y.1) = true → z.1 = y.1) ∧ (decide (z.1 = y.1) = false → z.1 ≠ y.1)) := Lib.hid ⟨of_decide_eq_true, of_decide_eq_false⟩
        generalize decide (z.1 = y.1) = q at *
        have hk0 : (0 : Int) ≤ (k : Int) := by omega
        have hkY : (k : Int) < (Y.length : Int) := by have := HE.out; omega
        have hkY' : k < Y.length := by omega
        clear hz hy htk ez ey z0 z1 z2 y0 y1 y2 hb hb'
        go_upto_region 6 with fail
        have hBd := below_drew hB
        refine wp_region_held_drew (S := (fun wy => (wy.cell? ⟨b, o + k * 3, none⟩ = some (.int .i64 z.1.kind) ∧ wy.cell? ⟨b, o + k * 3 + 1, none⟩ = some (.int .i64 z.1.cost) ∧ wy.cell? ⟨b, o + k * 3 + 2, none⟩ = some (.slice z.2.1 z.1.path.length z.2.2)) ∧ wy.cell? ⟨b', o' + k * 3, none⟩ = some (.int .i64 y.1.kind) ∧ wy.cell? ⟨b', o' + k * 3 + 1, none⟩ = some (.int .i64 y.1.cost) ∧ wy.cell? ⟨b', o' + k * 3 + 2, none⟩ = some (.slice y.2.1 y.1.path.length y.2.2))) (by kernel_rfl) (HC.out _ hBd) (fun hHeld0 => ?_)
        refine take_list (i := 0) (v := ?_) rfl (by kernel_rfl) (by kernel_rfl) (by kernel_rfl) (fun _ _ _ h => h) (Or.inl ⟨by rfl, ?_⟩) (by assumption) ?_
        rotate_left
        · (intro w hSw; (try dsimp only at hSw); go_simp; try (with_reducible rfl))
        try simp only [Act.put, List.setIfInBounds_toArray, List.set_cons_zero, List.set_cons_succ]
        refine take_list (i := 1) (v := ?_) rfl (by kernel_rfl) (by kernel_rfl) (by kernel_rfl) (fun _ _ _ h => h) (Or.inl ⟨by rfl, ?_⟩) (by assumption) ?_
        rotate_left
        · (intro w hSw; (try dsimp only at hSw); go_simp; try (with_reducible rfl))
        try simp only [Act.put, List.setIfInBounds_toArray, List.set_cons_zero, List.set_cons_succ]
        refine take_list (i := 2) (v := ?_) rfl (by kernel_rfl) (by kernel_rfl) (by kernel_rfl) (fun _ _ _ h => h) (Or.inl ⟨by rfl, ?_⟩) (by assumption) ?_
        rotate_left
        · (intro w hSw; (try dsimp only at hSw); go_simp; try (with_reducible rfl))
        try simp only [Act.put, List.setIfInBounds_toArray, List.set_cons_zero, List.set_cons_succ]
        refine take_list (i := 3) (v := ?_) rfl (by kernel_rfl) (by kernel_rfl) (by kernel_rfl) (fun _ _ _ h => h) (Or.inl ⟨by rfl, ?_⟩) (by assumption) ?_
        rotate_left
        · (intro w hSw; (try dsimp only at hSw); go_simp; try (with_reducible rfl))
        try simp only [Act.put, List.setIfInBounds_toArray, List.set_cons_zero, List.set_cons_succ]
        refine take_list (i := 4) (v := ?_) rfl (by kernel_rfl) (by kernel_rfl) (by kernel_rfl) (fun _ _ _ h => h) (Or.inl ⟨by rfl, ?_⟩) (by assumption) ?_
        rotate_left
        · (intro w hSw; (try dsimp only at hSw); go_simp; try (with_reducible rfl))
        try simp only [Act.put, List.setIfInBounds_toArray, List.set_cons_zero, List.set_cons_succ]
        refine take_list (i := 5) (v := ?_) rfl (by kernel_rfl) (by kernel_rfl) (by kernel_rfl) (fun _ _ _ h => h) (Or.inl ⟨by rfl, ?_⟩) (by assumption) ?_
        rotate_left
        · (intro w hSw; (try dsimp only at hSw); go_simp; try (with_reducible rfl))
        try simp only [Act.put, List.setIfInBounds_toArray, List.set_cons_zero, List.set_cons_succ]
        refine take_list (i := 6) (v := ?_) rfl (by kernel_rfl) (by kernel_rfl) (by kernel_rfl) (fun _ _ _ h => h) (Or.inl ⟨by rfl, ?_⟩) (by assumption) ?_
        rotate_left
        · (intro w hSw; (try dsimp only at hSw); go_simp; try (with_reducible rfl))
        try simp only [Act.put, List.setIfInBounds_toArray, List.set_cons_zero, List.set_cons_succ]
        refine take_list (i := 7) (v := ?_) rfl (by kernel_rfl) (by kernel_rfl) (by kernel_rfl) (fun _ _ _ h => h) (Or.inl ⟨by rfl, ?_⟩) (by assumption) ?_
        rotate_left
        · (intro w hSw; (try dsimp only at hSw); go_simp; try (with_reducible rfl))
        try simp only [Act.put, List.setIfInBounds_toArray, List.set_cons_zero, List.set_cons_succ]
        refine wpAnyH_ready (rs := [8]) (by kernel_rfl) (by simp) ?_
        refine cons_list rfl (fun K hK => ?_) AllReadyH.nil
        go_simp
        (go_at_call 37; refine (CS.out _ hBd).mono ?_; rintro e w4 ⟨rfl, hB4⟩)
        refine hK.out _ _ (HC.out _ (by assumption)) (fun hHeld1 => ?_)
        clear hK K hHeld0
        try simp only [Act.put, List.setIfInBounds_toArray, List.set_cons_zero, List.set_cons_succ]
        refine take_list (i := 9) (v := ?_) rfl (by kernel_rfl) (by kernel_rfl) (by kernel_rfl) (fun _ _ _ h => h) (Or.inl ⟨by rfl, ?_⟩) (by assumption) ?_
        rotate_left
        · (intro w hSw; (try dsimp only at hSw); go_simp; try (with_reducible rfl))
        try simp only [Act.put, List.setIfInBounds_toArray, List.set_cons_zero, List.set_cons_succ]
        refine wpAnyH_done (by kernel_rfl) ?_ _
        clear hHeld1
        have B4 := Lib.hid hB4
        clear hB4 hBd hB
        cases q with
        | true =>
          have HT := Lib.hid (HS.out (HQ.out.1 rfl))
          go_wp2
          go_roundw
          case rel => exact ⟨k + 1, by omega, by go_num, HT.out, B4.out⟩
          case measure => simp [intOf]; omega
        | false =>
          have HT := Lib.hid (HN.out (HQ.out.2 rfl))
          go_wp2
          go_ret
          exact ⟨ret_bool (decide_eq_false HT.out).symm, B4.out⟩
      · have HF := Lib.hid (show Z.map (·.1) = Y.map (·.1) from by
          have h1 := TK.out
          rwa [List.take_of_length_le (by simp; omega), List.take_of_length_le (by have := HE.out; simp; omega)] at h1)
        clear htk hB
        go_wp2
        go_ret
        exact ⟨ret_bool (by simp [HF.out]), BX.out⟩
  · have hq : ((Z.length : Int) != (Y.length : Int)) = true := by simp; omega
    have HN := Lib.hid (show Z.map (·.1) ≠ Y.map (·.1) from fun e => he (by have := congrArg List.length e; simpa using this))
    clear he
    go_enter Tryz.func18, Tryz.ntmps18
    go_wp2
    go_ret
    exact ⟨ret_bool (by simp [HN.out]), Below.refl _ _⟩
end Go.Proofs.YtablbagdnmbbfaaGreat

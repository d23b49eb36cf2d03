/- The walk of backstaylaw06.AttrLonger. -/
import Derived.Test.YtmioaanbehacgaaDoorOwnBox
import Derived.Test.YtmioaanbehacgaaDoorRegs
namespace Go.Proofs.YtmioaanbehacgaaDoor
set_option linter.unusedSimpArgs false
set_option linter.unusedVariables false
open Go.RowKit

/-! ### Plainly -/
theorem lesser_better {a b : Rt} (ha : RtOk a) (hb : RtOk b) (hk : a.kind = b.kind) (hl : rtLen a < rtLen b) : betterB a b = true := by
  rw [betterB_iff]
  unfold rtLen at hl
  refine .inr ⟨by rw [hk], ?_⟩
  rcases ha.kind with e | e | e
  · rw [if_neg (by omega), if_neg (by omega), if_neg (by omega), if_neg (by omega)] at hl
    omega
  · rw [if_pos e, if_pos (by omega)] at hl
    exact .inl hl
  · rw [if_neg (by omega), if_pos e, if_neg (by omega), if_pos (by omega)] at hl
    have h1 := (ha.k2 e).1
    have h2 := (hb.k2 (by omega)).1
    exact .inr ⟨by omega, .inl (by omega)⟩
theorem nodup_le : ∀ (m : Nat) (p : List Int) (x : Int), p.Nodup → (∀ j : Nat, j < m → x + j ∈ p) → m ≤ p.length
  | 0, _, _, _, _ => Nat.zero_le _
  | m + 1, p, x, hn, h => by
    have h0 : x + (m : Int) ∈ p := h m (by omega)
    have := nodup_le m (p.erase (x + (m : Int))) x (hn.erase _) (fun j hj => by
      rw [hn.mem_erase_iff]
      exact ⟨by omega, h j (by omega)⟩)
    rw [List.length_erase_of_mem h0] at this
    have := List.length_pos_of_mem h0
    omega
theorem snoc_right {p : List Int} {y : Int} (h : PathOk p) (hl : p.length ≤ 11) (hy : 1 ≤ y ∧ y ≤ 65535) (hn : y ∉ p) : rtRightB ⟨2, 0, p ++ [y]⟩ = true := by
  have h2 : PathOk (p ++ [y]) := ⟨by simp; omega, by
    rw [List.nodup_append]
    refine ⟨h.2.1, by simp, fun a ha b hb => ?_⟩
    simp at hb; subst hb
    rintro rfl; exact hn ha, fun z hz => by
    rcases List.mem_append.1 hz with hz | hz
    · exact h.2.2 z hz
    · simp at hz; subst hz; exact hy⟩
  simp [rtRightB, h2.listB]
theorem snoc_worse {p : List Int} {y : Int} : betterB ⟨2, 0, p⟩ ⟨2, 0, p ++ [y]⟩ = true :=
  (betterB_iff _ _).2 (.inr ⟨rfl, .inr ⟨rfl, .inl (by simp)⟩⟩)
theorem OB.begin2 {w0 wr w2 w3 : World} {b c n c2 c3 m : Nat} {r : Rt} {A A2 A3 : Option Addr} {ys : List Value} {q : List Int} {o : Obj} (hb : Below w0.heap.size w0 wr) (lo : w0.heap.size ≤ b) (x : Box wr b r A c) (hg : wr.grownBy w2 (blk none)) (hown2 : Own w2 (b + 1) 3 1 A2 m c2 ys)
    (hg3 : (w2.alloc o).grownBy w3 (blk A2)) (hn : n = q.length) (hown : Own w3 (b + 1) 3 1 A3 n c3 (ints q)) :
    OB w0 (w3.setCell ⟨b, 2, none⟩ (.slice A3 n c3)) b ⟨r.kind, r.cost, q⟩ A3 c3 := by
  subst hn
  have hlt := x.lt
  have hs := hg.size
  have h1 := (hg.block b hlt (by simp [blk])).trans x.box
  have h2 := (Below.heap_alloc w2 o b (by omega)).trans h1
  have h3 := (hg3.block b (by simp; omega) (fun e => by have := hown2.from_ _ e.symm; omega)).trans h2
  have hb2 : Below w0.heap.size w0 w2 := hb.grown hg hb.size (fun g h => by simp [blk] at h)
  refine ⟨((hb2.alloc hb2.size _).grown hg3 (by have := hb2.size; simp; omega) (fun g h => by have := hown2.from_ _ h; omega)).setCell lo _, lo, ?_, hown.setCell_far (fun g hg => by have := hown.from_ g hg; simp; omega) _⟩
  rw [heap_setCell_same _ _ _ _ _ _ h3]; simp
attribute [local go_sem ↓] Go.wp_at_zero Go.wp_at_succ
set_option maxRecDepth 100000 in
set_option maxHeartbeats 8000000 in
theorem attrLonger_walk (a0 a1 : Option Addr) (c0 c1 : Nat) (l0 l1 : List Int) (n2 : Int) (w : World) (h0 : InRow w a0 c0 l0) (h1 : InRow w a1 c1 l1) (k2 : In64 n2) (ht : Tab w) :
    Calls Tryd.prog 7 #[.slice a0 l0.length c0, .slice a1 l1.length c1, .int .i64 n2] w fun e w' => e = .returned (.bool true) ∧ Below w.heap.size w w' := by
  generalize hR0 : routeR l0 = r0
  generalize hR1 : routeR l1 = r1
  have K0 := Lib.hid hR0
  have K1 := Lib.hid hR1
  have O0 := Lib.hid (hR0 ▸ routeR_ok l0)
  have O1 := Lib.hid (hR1 ▸ routeR_ok l1)
  have H0 := Lib.hid h0
  have H1 := Lib.hid h1
  have HT := Lib.hid ht
  have I2 := Lib.hid k2
  obtain ⟨i0, hi0, hzz0, hzs0, hzb0⟩ := info_parts Tryd.info_int
  clear hR0 hR1 h0 h1 ht k2
  go_enter Tryd.func7, Tryd.ntmps7
  go_wp2_with fail
  refine (awake6 _ HT.out).mono ?_
  rintro e w1 ⟨rfl, hb1⟩
  have J0 := Lib.hid (H0.out.call hb1)
  have B1 := Lib.hid hb1
  clear hb1
  go_wp2_with fail
  refine (route_any l0 _ _ _ J0.out.rd J0.out.in64 J0.out.len).mono ?_
  rintro e w2 ⟨A0, d0, rfl, ho, hb⟩
  rw [K0.out] at ho ⊢
  have B2 := Lib.hid (since_trans B1.out hb)
  have X0 := Lib.hid (Box.new (RtR.of_own ho))
  clear hb ho
  unfold rtV
  go_wp2_with fail
  have B3 := Lib.hid (since_alloc B2.out (.cells #[.int .i64 r0.kind, .int .i64 r0.cost, .slice A0 r0.path.length d0] 24))
  refine (route_any l1 _ _ _ (H1.out.call B3.out).rd H1.out.in64 H1.out.len).mono ?_
  rintro e w3 ⟨A1, d1, rfl, ho, hb⟩
  rw [K1.out] at ho ⊢
  have B4 := Lib.hid (since_trans B3.out hb)
  have Y0 := Lib.hid (X0.out.call hb)
  have Z1 := Lib.hid (Box.new (RtR.of_own ho))
  clear hb ho
  unfold rtV
  have BV := Lib.hid (since_alloc B4.out (.cells #[.int .i64 r1.kind, .int .i64 r1.cost, .slice A1 r1.path.length d1] 24))
  have Z0 := Lib.hid (Y0.out.alloc (.cells #[.int .i64 r1.kind, .int .i64 r1.cost, .slice A1 r1.path.length d1] 24))
  go_upto_region 4 with fail
  clear B4 B3 Y0 X0
  generalize w3.alloc (.cells #[.int .i64 r1.kind, .int .i64 r1.cost, .slice A1 r1.path.length d1] 24) = wv at *
  have HX : Hid (∀ wy, Below wv.heap.size wv wy → (wy.cell? ⟨w2.heap.size, 0, none⟩ = some (.int .i64 r0.kind) ∧ wy.cell? ⟨w2.heap.size, 1, none⟩ = some (.int .i64 r0.cost) ∧ wy.cell? ⟨w2.heap.size, 2, none⟩ = some (.slice A0 r0.path.length d0)) ∧ (wy.cell? ⟨w3.heap.size, 0, none⟩ = some (.int .i64 r1.kind) ∧ wy.cell? ⟨w3.heap.size, 1, none⟩ = some (.int .i64 r1.cost) ∧ wy.cell? ⟨w3.heap.size, 2, none⟩ = some (.slice A1 r1.path.length d1))) := Lib.hid (fun wy hb =>
    ⟨(Z0.out.call hb).at_, (Z1.out.call hb).at_⟩)
  have L1 : Hid (∀ wy, Below wv.heap.size wv wy → Calls Tryd.prog 17 #[.agg #[.int .i64 r0.kind, .int .i64 r0.cost, .slice A0 r0.path.length d0]] wy fun e w' => e = .returned (.int .i64 (rtLen r0)) ∧ Below wy.heap.size wy w') := Lib.hid (fun wy hb => length_rt r0 A0 d0 wy)
  have L2 : Hid (∀ wy, Below wv.heap.size wv wy → Calls Tryd.prog 17 #[.agg #[.int .i64 r1.kind, .int .i64 r1.cost, .slice A1 r1.path.length d1]] wy fun e w' => e = .returned (.int .i64 (rtLen r1)) ∧ Below wy.heap.size wy w') := Lib.hid (fun wy hb => length_rt r1 A1 d1 wy)
  have C1 : Hid (∀ wy, Below wv.heap.size wv wy → Calls Tryd.prog 21 #[.agg #[.int .i64 r0.kind, .int .i64 r0.cost, .slice A0 r0.path.length d0], .agg #[.int .i64 r1.kind, .int .i64 r1.cost, .slice A1 r1.path.length d1]] wy fun e w' => e = .returned (.bool (betterB r0 r1)) ∧ Below wy.heap.size wy w') := Lib.hid (fun wy hb => better_rt r0 r1 _ _ _ _ wy (Z0.out.call hb).rt (Z1.out.call hb).rt)
  have hs0 : Below wv.heap.size wv wv := Below.refl _ _
  have hsd : Below wv.heap.size wv wv.drew := hs0.trans ⟨rfl, rfl, rfl, Nat.le_refl _, fun _ _ => rfl⟩
  go_cut [37] (fun s wx => s = .bool false ∧ Below wv.heap.size wv wx)
  case first =>
    by_cases hk : r0.kind = r1.kind
    rotate_left
    · have hq : (r0.kind == r1.kind) = false := by simp [hk]
      clear hk
      go_wp2_with fail
      refine wp_region_held_drew (S := (fun wx => (wx.cell? ⟨w2.heap.size, 0, none⟩ = some (.int .i64 r0.kind) ∧ wx.cell? ⟨w2.heap.size, 1, none⟩ = some (.int .i64 r0.cost) ∧ wx.cell? ⟨w2.heap.size, 2, none⟩ = some (.slice A0 r0.path.length d0)) ∧ (wx.cell? ⟨w3.heap.size, 0, none⟩ = some (.int .i64 r1.kind) ∧ wx.cell? ⟨w3.heap.size, 1, none⟩ = some (.int .i64 r1.cost) ∧ wx.cell? ⟨w3.heap.size, 2, none⟩ = some (.slice A1 r1.path.length d1)))) (by kernel_rfl) (HX.out _ hsd) (fun hHeld0 => ?_)
      refine take_list (i := 0) (v := ?_) rfl (by kernel_rfl) (by kernel_rfl) (by kernel_rfl) (fun _ _ _ h => h) (Or.inl ⟨by rfl, ?_⟩) (by assumption) ?_
      rotate_left
      · (intro w hSw; (try dsimp only at hSw); go_simp; try (with_reducible rfl))
      try simp only [Act.put, List.setIfInBounds_toArray, List.set_cons_zero, List.set_cons_succ]
      refine take_list (i := 1) (v := ?_) rfl (by kernel_rfl) (by kernel_rfl) (by kernel_rfl) (fun _ _ _ h => h) (Or.inl ⟨by rfl, ?_⟩) (by assumption) ?_
      rotate_left
      · (intro w hSw; (try dsimp only at hSw); go_simp; try (with_reducible rfl))
      try simp only [Act.put, List.setIfInBounds_toArray, List.set_cons_zero, List.set_cons_succ]
      refine take_list (i := 2) (v := ?_) rfl (by kernel_rfl) (by kernel_rfl) (by kernel_rfl) (fun _ _ _ h => h) (Or.inl ⟨by rfl, ?_⟩) (by assumption) ?_
      rotate_left
      · (intro w hSw; (try dsimp only at hSw); go_simp; try (with_reducible rfl))
      try simp only [Act.put, List.setIfInBounds_toArray, List.set_cons_zero, List.set_cons_succ]
      refine take_list (i := 3) (v := ?_) rfl (by kernel_rfl) (by kernel_rfl) (by kernel_rfl) (fun _ _ _ h => h) (Or.inl ⟨by rfl, ?_⟩) (by assumption) ?_
      rotate_left
      · (intro w hSw; (try dsimp only at hSw); go_simp; try (with_reducible rfl))
      try simp only [Act.put, List.setIfInBounds_toArray, List.set_cons_zero, List.set_cons_succ]
      refine take_list (i := 4) (v := ?_) rfl (by kernel_rfl) (by kernel_rfl) (by kernel_rfl) (fun _ _ _ h => h) (Or.inl ⟨by rfl, ?_⟩) (by assumption) ?_
      rotate_left
      · (intro w hSw; (try dsimp only at hSw); go_simp; try (with_reducible rfl))
      try simp only [Act.put, List.setIfInBounds_toArray, List.set_cons_zero, List.set_cons_succ]
      refine take_list (i := 5) (v := ?_) rfl (by kernel_rfl) (by kernel_rfl) (by kernel_rfl) (fun _ _ _ h => h) (Or.inl ⟨by rfl, ?_⟩) (by assumption) ?_
      rotate_left
      · (intro w hSw; (try dsimp only at hSw); go_simp; try (with_reducible rfl))
      try simp only [Act.put, List.setIfInBounds_toArray, List.set_cons_zero, List.set_cons_succ]
      refine take_list (i := 6) (v := undef) rfl (by kernel_rfl) (by kernel_rfl) (by kernel_rfl) (fun _ _ _ h => h) (Or.inr ⟨by rfl, rfl⟩) (by assumption) ?_
      try simp only [Act.put, List.setIfInBounds_toArray, List.set_cons_zero, List.set_cons_succ]
      refine take_list (i := 7) (v := undef) rfl (by kernel_rfl) (by kernel_rfl) (by kernel_rfl) (fun _ _ _ h => h) (Or.inr ⟨by rfl, rfl⟩) (by assumption) ?_
      try simp only [Act.put, List.setIfInBounds_toArray, List.set_cons_zero, List.set_cons_succ]
      refine take_list (i := 8) (v := undef) rfl (by kernel_rfl) (by kernel_rfl) (by kernel_rfl) (fun _ _ _ h => h) (Or.inr ⟨by rfl, rfl⟩) (by assumption) ?_
      try simp only [Act.put, List.setIfInBounds_toArray, List.set_cons_zero, List.set_cons_succ]
      refine take_list (i := 9) (v := undef) rfl (by kernel_rfl) (by kernel_rfl) (by kernel_rfl) (fun _ _ _ h => h) (Or.inr ⟨by rfl, rfl⟩) (by assumption) ?_
      try simp only [Act.put, List.setIfInBounds_toArray, List.set_cons_zero, List.set_cons_succ]
      refine take_list (i := 10) (v := undef) rfl (by kernel_rfl) (by kernel_rfl) (by kernel_rfl) (fun _ _ _ h => h) (Or.inr ⟨by rfl, rfl⟩) (by assumption) ?_
      try simp only [Act.put, List.setIfInBounds_toArray, List.set_cons_zero, List.set_cons_succ]
      refine take_list (i := 11) (v := ?_) rfl (by kernel_rfl) (by kernel_rfl) (by kernel_rfl) (fun _ _ _ h => h) (Or.inl ⟨by rfl, ?_⟩) (by assumption) ?_
      rotate_left
      · (intro w hSw; (try dsimp only at hSw); go_simp; try (with_reducible rfl))
      try simp only [Act.put, List.setIfInBounds_toArray, List.set_cons_zero, List.set_cons_succ]
      refine take_list (i := 12) (v := ?_) rfl (by kernel_rfl) (by kernel_rfl) (by kernel_rfl) (fun _ _ _ h => h) (Or.inl ⟨by rfl, ?_⟩) (by assumption) ?_
      rotate_left
      · (intro w hSw; (try dsimp only at hSw); go_simp; try (with_reducible rfl))
      try simp only [Act.put, List.setIfInBounds_toArray, List.set_cons_zero, List.set_cons_succ]
      refine take_list (i := 13) (v := undef) rfl (by kernel_rfl) (by kernel_rfl) (by kernel_rfl) (fun _ _ _ h => h) (Or.inr ⟨by rfl, rfl⟩) (by assumption) ?_
      try simp only [Act.put, List.setIfInBounds_toArray, List.set_cons_zero, List.set_cons_succ]
      refine take_list (i := 14) (v := undef) rfl (by kernel_rfl) (by kernel_rfl) (by kernel_rfl) (fun _ _ _ h => h) (Or.inr ⟨by rfl, rfl⟩) (by assumption) ?_
      try simp only [Act.put, List.setIfInBounds_toArray, List.set_cons_zero, List.set_cons_succ]
      refine take_list (i := 15) (v := undef) rfl (by kernel_rfl) (by kernel_rfl) (by kernel_rfl) (fun _ _ _ h => h) (Or.inr ⟨by rfl, rfl⟩) (by assumption) ?_
      try simp only [Act.put, List.setIfInBounds_toArray, List.set_cons_zero, List.set_cons_succ]
      refine take_list (i := 16) (v := undef) rfl (by kernel_rfl) (by kernel_rfl) (by kernel_rfl) (fun _ _ _ h => h) (Or.inr ⟨by rfl, rfl⟩) (by assumption) ?_
      try simp only [Act.put, List.setIfInBounds_toArray, List.set_cons_zero, List.set_cons_succ]
      refine take_list (i := 17) (v := ?_) rfl (by kernel_rfl) (by kernel_rfl) (by kernel_rfl) (fun _ _ _ h => h) (Or.inl ⟨by rfl, ?_⟩) (by assumption) ?_
      rotate_left
      · (intro w hSw; (try dsimp only at hSw); go_simp; try (with_reducible rfl))
      try simp only [Act.put, List.setIfInBounds_toArray, List.set_cons_zero, List.set_cons_succ]
      refine wpAnyH_done (by kernel_rfl) ?_ _
      clear hHeld0
      go_wp2
      go_meet
      case rel => exact ⟨rfl, hsd⟩
    · have hq : (r0.kind == r1.kind) = true := by simp [hk]
      by_cases hl : rtLen r0 < rtLen r1
      · have hq2 : decide (rtLen r0 < rtLen r1) = true := by simp [hl]
        have HB := Lib.hid (lesser_better O0.out O1.out hk hl)
        clear hk hl
        go_wp2_with fail
        refine wp_region_held_drew (S := (fun wx => (wx.cell? ⟨w2.heap.size, 0, none⟩ = some (.int .i64 r0.kind) ∧ wx.cell? ⟨w2.heap.size, 1, none⟩ = some (.int .i64 r0.cost) ∧ wx.cell? ⟨w2.heap.size, 2, none⟩ = some (.slice A0 r0.path.length d0)) ∧ (wx.cell? ⟨w3.heap.size, 0, none⟩ = some (.int .i64 r1.kind) ∧ wx.cell? ⟨w3.heap.size, 1, none⟩ = some (.int .i64 r1.cost) ∧ wx.cell? ⟨w3.heap.size, 2, none⟩ = some (.slice A1 r1.path.length d1)))) (by kernel_rfl) (HX.out _ hsd) (fun hHeld0 => ?_)
        refine take_list (i := 0) (v := ?_) rfl (by kernel_rfl) (by kernel_rfl) (by kernel_rfl) (fun _ _ _ h => h) (Or.inl ⟨by rfl, ?_⟩) (by assumption) ?_
        rotate_left
        · (intro w hSw; (try dsimp only at hSw); go_simp; try (with_reducible rfl))
        try simp only [Act.put, List.setIfInBounds_toArray, List.set_cons_zero, List.set_cons_succ]
        refine take_list (i := 1) (v := ?_) rfl (by kernel_rfl) (by kernel_rfl) (by kernel_rfl) (fun _ _ _ h => h) (Or.inl ⟨by rfl, ?_⟩) (by assumption) ?_
        rotate_left
        · (intro w hSw; (try dsimp only at hSw); go_simp; try (with_reducible rfl))
        try simp only [Act.put, List.setIfInBounds_toArray, List.set_cons_zero, List.set_cons_succ]
        refine take_list (i := 2) (v := ?_) rfl (by kernel_rfl) (by kernel_rfl) (by kernel_rfl) (fun _ _ _ h => h) (Or.inl ⟨by rfl, ?_⟩) (by assumption) ?_
        rotate_left
        · (intro w hSw; (try dsimp only at hSw); go_simp; try (with_reducible rfl))
        try simp only [Act.put, List.setIfInBounds_toArray, List.set_cons_zero, List.set_cons_succ]
        refine take_list (i := 3) (v := ?_) rfl (by kernel_rfl) (by kernel_rfl) (by kernel_rfl) (fun _ _ _ h => h) (Or.inl ⟨by rfl, ?_⟩) (by assumption) ?_
        rotate_left
        · (intro w hSw; (try dsimp only at hSw); go_simp; try (with_reducible rfl))
        try simp only [Act.put, List.setIfInBounds_toArray, List.set_cons_zero, List.set_cons_succ]
        refine take_list (i := 4) (v := ?_) rfl (by kernel_rfl) (by kernel_rfl) (by kernel_rfl) (fun _ _ _ h => h) (Or.inl ⟨by rfl, ?_⟩) (by assumption) ?_
        rotate_left
        · (intro w hSw; (try dsimp only at hSw); go_simp; try (with_reducible rfl))
        try simp only [Act.put, List.setIfInBounds_toArray, List.set_cons_zero, List.set_cons_succ]
        refine take_list (i := 5) (v := ?_) rfl (by kernel_rfl) (by kernel_rfl) (by kernel_rfl) (fun _ _ _ h => h) (Or.inl ⟨by rfl, ?_⟩) (by assumption) ?_
        rotate_left
        · (intro w hSw; (try dsimp only at hSw); go_simp; try (with_reducible rfl))
        try simp only [Act.put, List.setIfInBounds_toArray, List.set_cons_zero, List.set_cons_succ]
        refine take_list (i := 6) (v := ?_) rfl (by kernel_rfl) (by kernel_rfl) (by kernel_rfl) (fun _ _ _ h => h) (Or.inl ⟨by rfl, ?_⟩) (by assumption) ?_
        rotate_left
        · (intro w hSw; (try dsimp only at hSw); go_simp; try (with_reducible rfl))
        try simp only [Act.put, List.setIfInBounds_toArray, List.set_cons_zero, List.set_cons_succ]
        refine take_list (i := 8) (v := ?_) rfl (by kernel_rfl) (by kernel_rfl) (by kernel_rfl) (fun _ _ _ h => h) (Or.inl ⟨by rfl, ?_⟩) (by assumption) ?_
        rotate_left
        · (intro w hSw; (try dsimp only at hSw); go_simp; try (with_reducible rfl))
        try simp only [Act.put, List.setIfInBounds_toArray, List.set_cons_zero, List.set_cons_succ]
        refine wpAnyH_ready (rs := [7]) (by kernel_rfl) (by simp) ?_
        refine cons_list rfl (fun K hK => ?_) AllReadyH.nil
        go_simp
        (go_at_call 17; refine (L1.out _ (by assumption)).mono ?_; rintro e wn ⟨rfl, hbn⟩; (have hsn := since_trans (by assumption) hbn))
        refine hK.out _ _ (HX.out _ (by assumption)) (fun hHeld1 => ?_)
        clear hK K hHeld0
        try simp only [Act.put, List.setIfInBounds_toArray, List.set_cons_zero, List.set_cons_succ]
        refine wpAnyH_ready (rs := [9]) (by kernel_rfl) (by simp) ?_
        refine cons_list rfl (fun K hK => ?_) AllReadyH.nil
        go_simp
        (go_at_call 17; refine (L2.out _ (by assumption)).mono ?_; rintro e wn ⟨rfl, hbn⟩; (have hsn := since_trans (by assumption) hbn))
        refine hK.out _ _ (HX.out _ (by assumption)) (fun hHeld2 => ?_)
        clear hK K hHeld1
        try simp only [Act.put, List.setIfInBounds_toArray, List.set_cons_zero, List.set_cons_succ]
        refine take_list (i := 10) (v := ?_) rfl (by kernel_rfl) (by kernel_rfl) (by kernel_rfl) (fun _ _ _ h => h) (Or.inl ⟨by rfl, ?_⟩) (by assumption) ?_
        rotate_left
        · (intro w hSw; (try dsimp only at hSw); go_simp; try (with_reducible rfl))
        try simp only [Act.put, List.setIfInBounds_toArray, List.set_cons_zero, List.set_cons_succ]
        refine take_list (i := 11) (v := ?_) rfl (by kernel_rfl) (by kernel_rfl) (by kernel_rfl) (fun _ _ _ h => h) (Or.inl ⟨by rfl, ?_⟩) (by assumption) ?_
        rotate_left
        · (intro w hSw; (try dsimp only at hSw); go_simp; try (with_reducible rfl))
        try simp only [Act.put, List.setIfInBounds_toArray, List.set_cons_zero, List.set_cons_succ]
        refine take_list (i := 12) (v := ?_) rfl (by kernel_rfl) (by kernel_rfl) (by kernel_rfl) (fun _ _ _ h => h) (Or.inl ⟨by rfl, ?_⟩) (by assumption) ?_
        rotate_left
        · (intro w hSw; (try dsimp only at hSw); go_simp; try (with_reducible rfl))
        try simp only [Act.put, List.setIfInBounds_toArray, List.set_cons_zero, List.set_cons_succ]
        refine take_list (i := 13) (v := ?_) rfl (by kernel_rfl) (by kernel_rfl) (by kernel_rfl) (fun _ _ _ h => h) (Or.inl ⟨by rfl, ?_⟩) (by assumption) ?_
        rotate_left
        · (intro w hSw; (try dsimp only at hSw); go_simp; try (with_reducible rfl))
        try simp only [Act.put, List.setIfInBounds_toArray, List.set_cons_zero, List.set_cons_succ]
        refine take_list (i := 14) (v := ?_) rfl (by kernel_rfl) (by kernel_rfl) (by kernel_rfl) (fun _ _ _ h => h) (Or.inl ⟨by rfl, ?_⟩) (by assumption) ?_
        rotate_left
        · (intro w hSw; (try dsimp only at hSw); go_simp; try (with_reducible rfl))
        try simp only [Act.put, List.setIfInBounds_toArray, List.set_cons_zero, List.set_cons_succ]
        refine wpAnyH_ready (rs := [15]) (by kernel_rfl) (by simp) ?_
        refine cons_list rfl (fun K hK => ?_) AllReadyH.nil
        go_simp
        (go_at_call 21; refine (C1.out _ (by assumption)).mono ?_; rintro e wn ⟨rfl, hbn⟩; rw [HB.out]; (have hsn := since_trans (by assumption) hbn))
        refine hK.out _ _ (HX.out _ (by assumption)) (fun hHeld3 => ?_)
        clear hK K hHeld2
        try simp only [Act.put, List.setIfInBounds_toArray, List.set_cons_zero, List.set_cons_succ]
        refine take_list (i := 16) (v := ?_) rfl (by kernel_rfl) (by kernel_rfl) (by kernel_rfl) (fun _ _ _ h => h) (Or.inl ⟨by rfl, ?_⟩) (by assumption) ?_
        rotate_left
        · (intro w hSw; (try dsimp only at hSw); go_simp; try (with_reducible rfl))
        try simp only [Act.put, List.setIfInBounds_toArray, List.set_cons_zero, List.set_cons_succ]
        refine take_list (i := 17) (v := ?_) rfl (by kernel_rfl) (by kernel_rfl) (by kernel_rfl) (fun _ _ _ h => h) (Or.inl ⟨by rfl, ?_⟩) (by assumption) ?_
        rotate_left
        · (intro w hSw; (try dsimp only at hSw); go_simp; try (with_reducible rfl))
        try simp only [Act.put, List.setIfInBounds_toArray, List.set_cons_zero, List.set_cons_succ]
        refine wpAnyH_done (by kernel_rfl) ?_ _
        clear hHeld3
        go_wp2
        go_meet
        case rel => exact ⟨rfl, hsn⟩
      · have hq2 : decide (rtLen r0 < rtLen r1) = false := by simp [hl]
        clear hk hl
        go_wp2_with fail
        refine wp_region_held_drew (S := (fun wx => (wx.cell? ⟨w2.heap.size, 0, none⟩ = some (.int .i64 r0.kind) ∧ wx.cell? ⟨w2.heap.size, 1, none⟩ = some (.int .i64 r0.cost) ∧ wx.cell? ⟨w2.heap.size, 2, none⟩ = some (.slice A0 r0.path.length d0)) ∧ (wx.cell? ⟨w3.heap.size, 0, none⟩ = some (.int .i64 r1.kind) ∧ wx.cell? ⟨w3.heap.size, 1, none⟩ = some (.int .i64 r1.cost) ∧ wx.cell? ⟨w3.heap.size, 2, none⟩ = some (.slice A1 r1.path.length d1)))) (by kernel_rfl) (HX.out _ hsd) (fun hHeld0 => ?_)
        refine take_list (i := 0) (v := ?_) rfl (by kernel_rfl) (by kernel_rfl) (by kernel_rfl) (fun _ _ _ h => h) (Or.inl ⟨by rfl, ?_⟩) (by assumption) ?_
        rotate_left
        · (intro w hSw; (try dsimp only at hSw); go_simp; try (with_reducible rfl))
        try simp only [Act.put, List.setIfInBounds_toArray, List.set_cons_zero, List.set_cons_succ]
        refine take_list (i := 1) (v := ?_) rfl (by kernel_rfl) (by kernel_rfl) (by kernel_rfl) (fun _ _ _ h => h) (Or.inl ⟨by rfl, ?_⟩) (by assumption) ?_
        rotate_left
        · (intro w hSw; (try dsimp only at hSw); go_simp; try (with_reducible rfl))
        try simp only [Act.put, List.setIfInBounds_toArray, List.set_cons_zero, List.set_cons_succ]
        refine take_list (i := 2) (v := ?_) rfl (by kernel_rfl) (by kernel_rfl) (by kernel_rfl) (fun _ _ _ h => h) (Or.inl ⟨by rfl, ?_⟩) (by assumption) ?_
        rotate_left
        · (intro w hSw; (try dsimp only at hSw); go_simp; try (with_reducible rfl))
        try simp only [Act.put, List.setIfInBounds_toArray, List.set_cons_zero, List.set_cons_succ]
        refine take_list (i := 3) (v := ?_) rfl (by kernel_rfl) (by kernel_rfl) (by kernel_rfl) (fun _ _ _ h => h) (Or.inl ⟨by rfl, ?_⟩) (by assumption) ?_
        rotate_left
        · (intro w hSw; (try dsimp only at hSw); go_simp; try (with_reducible rfl))
        try simp only [Act.put, List.setIfInBounds_toArray, List.set_cons_zero, List.set_cons_succ]
        refine take_list (i := 4) (v := ?_) rfl (by kernel_rfl) (by kernel_rfl) (by kernel_rfl) (fun _ _ _ h => h) (Or.inl ⟨by rfl, ?_⟩) (by assumption) ?_
        rotate_left
        · (intro w hSw; (try dsimp only at hSw); go_simp; try (with_reducible rfl))
        try simp only [Act.put, List.setIfInBounds_toArray, List.set_cons_zero, List.set_cons_succ]
        refine take_list (i := 5) (v := ?_) rfl (by kernel_rfl) (by kernel_rfl) (by kernel_rfl) (fun _ _ _ h => h) (Or.inl ⟨by rfl, ?_⟩) (by assumption) ?_
        rotate_left
        · (intro w hSw; (try dsimp only at hSw); go_simp; try (with_reducible rfl))
        try simp only [Act.put, List.setIfInBounds_toArray, List.set_cons_zero, List.set_cons_succ]
        refine take_list (i := 6) (v := ?_) rfl (by kernel_rfl) (by kernel_rfl) (by kernel_rfl) (fun _ _ _ h => h) (Or.inl ⟨by rfl, ?_⟩) (by assumption) ?_
        rotate_left
        · (intro w hSw; (try dsimp only at hSw); go_simp; try (with_reducible rfl))
        try simp only [Act.put, List.setIfInBounds_toArray, List.set_cons_zero, List.set_cons_succ]
        refine take_list (i := 8) (v := ?_) rfl (by kernel_rfl) (by kernel_rfl) (by kernel_rfl) (fun _ _ _ h => h) (Or.inl ⟨by rfl, ?_⟩) (by assumption) ?_
        rotate_left
        · (intro w hSw; (try dsimp only at hSw); go_simp; try (with_reducible rfl))
        try simp only [Act.put, List.setIfInBounds_toArray, List.set_cons_zero, List.set_cons_succ]
        refine wpAnyH_ready (rs := [7]) (by kernel_rfl) (by simp) ?_
        refine cons_list rfl (fun K hK => ?_) AllReadyH.nil
        go_simp
        (go_at_call 17; refine (L1.out _ (by assumption)).mono ?_; rintro e wn ⟨rfl, hbn⟩; (have hsn := since_trans (by assumption) hbn))
        refine hK.out _ _ (HX.out _ (by assumption)) (fun hHeld1 => ?_)
        clear hK K hHeld0
        try simp only [Act.put, List.setIfInBounds_toArray, List.set_cons_zero, List.set_cons_succ]
        refine wpAnyH_ready (rs := [9]) (by kernel_rfl) (by simp) ?_
        refine cons_list rfl (fun K hK => ?_) AllReadyH.nil
        go_simp
        (go_at_call 17; refine (L2.out _ (by assumption)).mono ?_; rintro e wn ⟨rfl, hbn⟩; (have hsn := since_trans (by assumption) hbn))
        refine hK.out _ _ (HX.out _ (by assumption)) (fun hHeld2 => ?_)
        clear hK K hHeld1
        try simp only [Act.put, List.setIfInBounds_toArray, List.set_cons_zero, List.set_cons_succ]
        refine take_list (i := 10) (v := ?_) rfl (by kernel_rfl) (by kernel_rfl) (by kernel_rfl) (fun _ _ _ h => h) (Or.inl ⟨by rfl, ?_⟩) (by assumption) ?_
        rotate_left
        · (intro w hSw; (try dsimp only at hSw); go_simp; try (with_reducible rfl))
        try simp only [Act.put, List.setIfInBounds_toArray, List.set_cons_zero, List.set_cons_succ]
        refine take_list (i := 11) (v := ?_) rfl (by kernel_rfl) (by kernel_rfl) (by kernel_rfl) (fun _ _ _ h => h) (Or.inl ⟨by rfl, ?_⟩) (by assumption) ?_
        rotate_left
        · (intro w hSw; (try dsimp only at hSw); go_simp; try (with_reducible rfl))
        try simp only [Act.put, List.setIfInBounds_toArray, List.set_cons_zero, List.set_cons_succ]
        refine take_list (i := 12) (v := ?_) rfl (by kernel_rfl) (by kernel_rfl) (by kernel_rfl) (fun _ _ _ h => h) (Or.inl ⟨by rfl, ?_⟩) (by assumption) ?_
        rotate_left
        · (intro w hSw; (try dsimp only at hSw); go_simp; try (with_reducible rfl))
        try simp only [Act.put, List.setIfInBounds_toArray, List.set_cons_zero, List.set_cons_succ]
        refine take_list (i := 13) (v := undef) rfl (by kernel_rfl) (by kernel_rfl) (by kernel_rfl) (fun _ _ _ h => h) (Or.inr ⟨by rfl, rfl⟩) (by assumption) ?_
        try simp only [Act.put, List.setIfInBounds_toArray, List.set_cons_zero, List.set_cons_succ]
        refine take_list (i := 14) (v := undef) rfl (by kernel_rfl) (by kernel_rfl) (by kernel_rfl) (fun _ _ _ h => h) (Or.inr ⟨by rfl, rfl⟩) (by assumption) ?_
        try simp only [Act.put, List.setIfInBounds_toArray, List.set_cons_zero, List.set_cons_succ]
        refine take_list (i := 15) (v := undef) rfl (by kernel_rfl) (by kernel_rfl) (by kernel_rfl) (fun _ _ _ h => h) (Or.inr ⟨by rfl, rfl⟩) (by assumption) ?_
        try simp only [Act.put, List.setIfInBounds_toArray, List.set_cons_zero, List.set_cons_succ]
        refine take_list (i := 16) (v := undef) rfl (by kernel_rfl) (by kernel_rfl) (by kernel_rfl) (fun _ _ _ h => h) (Or.inr ⟨by rfl, rfl⟩) (by assumption) ?_
        try simp only [Act.put, List.setIfInBounds_toArray, List.set_cons_zero, List.set_cons_succ]
        refine take_list (i := 17) (v := ?_) rfl (by kernel_rfl) (by kernel_rfl) (by kernel_rfl) (fun _ _ _ h => h) (Or.inl ⟨by rfl, ?_⟩) (by assumption) ?_
        rotate_left
        · (intro w hSw; (try dsimp only at hSw); go_simp; try (with_reducible rfl))
        try simp only [Act.put, List.setIfInBounds_toArray, List.set_cons_zero, List.set_cons_succ]
        refine wpAnyH_done (by kernel_rfl) ?_ _
        clear hHeld2
        go_wp2
        go_meet
        case rel => exact ⟨rfl, hsn⟩
  case rest =>
  obtain ⟨rfl, hbq⟩ := hcut
  obtain ⟨v1, rfl⟩ : ∃ v, v = wc := ⟨_, rfl⟩
  have BW := Lib.hid (since_trans BV.out hbq)
  have Za := Lib.hid (Z0.out.call hbq)
  clear hbq hs0 hsd HX L1 L2 C1 Z1 Z0 BV K1 O1
  obtain ⟨g0, g1, g2⟩ := Za.out.at_
  by_cases hk : r0.kind = 2
  rotate_left
  · have hk' : (r0.kind != 2) = true := by simp [hk]
    clear hk
    go_wp2
    go_ret
    exact ⟨rfl, BW.out⟩
  have hk' : (r0.kind != 2) = false := by simp [hk]
  by_cases hl11 : r0.path.length ≤ 11
  rotate_left
  · have hl' : (11 : Int) < r0.path.length := by omega
    clear hk
    go_wp2
    go_ret
    exact ⟨rfl, BW.out⟩
  have hl' : (r0.path.length : Int) ≤ 11 := by omega
  have hok := (O0.out.k2 hk)
  obtain ⟨rk, rc, p⟩ := r0
  simp only at hk hl11 hl'
  obtain ⟨hrc, hpo⟩ := hok
  simp only at hrc hpo
  subst hk hrc
  have HPO := Lib.hid hpo
  clear hpo hk'
  have hlt := Za.out.lt
  have HRD := Lib.hid (fun (wx : World) (hb : Below (v1.alloc (.cells #[.int .i64 2, .int .i64 0, .slice A0 p.length d0] 24)).heap.size (v1.alloc (.cells #[.int .i64 2, .int .i64 0, .slice A0 p.length d0] 24)) wx) => ((Za.out.alloc (.cells #[.int .i64 2, .int .i64 0, .slice A0 p.length d0] 24)).call hb).rt.1)
  have XC := Lib.hid (Box.new (w := v1) (r := ⟨2, 0, p⟩) Za.out.rt)
  have BC := Lib.hid ((Below.refl v1.heap.size v1).alloc (Nat.le_refl _) (.cells #[.int .i64 2, .int .i64 0, .slice A0 p.length d0] 24))
  go_upto_region 9 with fail
  go_cut [] (fun wx => ∃ (A : Option Addr) (c : Nat), OB v1 wx v1.heap.size ⟨2, 0, p ++ [0]⟩ A c)
  case first =>
    have n0 := (Za.out.alloc (.cells #[.int .i64 2, .int .i64 0, .slice A0 p.length d0] 24)).at_.2.2
    go_wp2_with (first | (at_builtin; refine wpList_app _ rfl _ _ 22 rfl (v1.heap.size + 1) 3 i0 (.int .i64 0) 1 8 Tryd.underlying22 hi0 hzz0 hzs0 hzb0 rfl (by decide) _ _ _ [] rfl (by exact Own.nil _ _ _ _) _ p.length _ (ints p) rfl ((HRD.out _ (Below.refl _ _)).more (Nat.le_refl _)) (by intro u hu; simp [ints] at hu; obtain ⟨z, _, rfl⟩ := hu; rfl) (by unfold maxLen; omega) (by omega) (by simp) ?_; intro A2 c2 w2' hown2 hgrow2 hblk2 _; (have hz2' := hgrow2.size)) | (at_builtin; refine wpList_app _ rfl _ _ 22 rfl (v1.heap.size + 1) 3 i0 (.int .i64 0) 1 8 Tryd.underlying22 hi0 hzz0 hzs0 hzb0 rfl (by decide) _ _ _ ([] ++ ints p) rfl (by (rw [Nat.zero_add] at hown2; exact hown2.alloc _)) _ 1 _ [.int .i64 0] rfl (Rd.new (by simp) rfl) (by intro u hu; simp at hu; subst hu; rfl) (by unfold maxLen; omega) (by omega) (by simp at hz2' ⊢; omega) ?_; intro A3 c3 w3' hown3 hgrow3 hblk3 _; (have HOB := Lib.hid (OB.begin2 (q := p ++ [0]) (n := p.length + 1) BC.out (Nat.le_refl _) XC.out hgrow2 hown2 hgrow3 (by simp) (by simpa [ints] using hown3))); (have hbx := (hgrow3.block v1.heap.size (by simp at hz2' ⊢; omega) (fun e => by have := hown2.from_ _ e.symm; omega)).trans ((Below.heap_alloc w2' (.cells #[.int .i64 0] 3) v1.heap.size (by simp at hz2'; omega)).trans ((hgrow2.block v1.heap.size XC.out.lt (by simp [blk])).trans XC.out.box))); (have hc2 := cell_of_row w3' _ 2 _ _ _ hbx); (have hf2 := frozen_of_row w3' _ 2 _ _ hbx)))
    go_meet
    case rel => exact ⟨_, _, HOB.out⟩
  case rest =>
  obtain ⟨A, c, hO⟩ := hcut
  have OI := Lib.hid hO
  clear hO HRD XC BC g0 g1 g2
  have hbase := pickV_in (c := n2) (n := 60000) (by omega)
  obtain ⟨hb0, hb1⟩ := hbase
  go_wp2_with fail
  go_loopw [11] (fun sk wx => ∃ (k : Nat) (y : Int) (A : Option Addr) (c : Nat), k ≤ 20 ∧ sk = .int .i64 k ∧ OB v1 wx v1.heap.size ⟨2, 0, p ++ [y]⟩ A c ∧ (((1 ≤ y ∧ y ≤ 65535) ∧ y ∉ p) ∨ ∀ j : Nat, j < k → (1 + pickV n2 60000) + j ∈ p)) (fun sk _ => 20 - (intOf sk).toNat)
  case atStart => exact ⟨0, 0, A, c, by omega, rfl, OI.out, .inr (fun j hj => by omega)⟩
  case round =>
    clear OI
    obtain ⟨k, y, A, c, hk, rfl, hO, hy⟩ := hrel
    have OX := Lib.hid hO
    have HY := Lib.hid hy
    clear hO hy
    have ZA := Lib.hid (Za.out.call OX.out.below)
    obtain ⟨g0, g1, g2⟩ := ZA.out.at_
    obtain ⟨m0, m1, m2⟩ := OX.out.at_
    by_cases hkt : k < 20
    · go_wp2_with fail
      refine (pick6_any n2 60000 _ I2.out (by omega) (by omega)).mono ?_
      rintro e w' ⟨rfl, rfl⟩
      obtain ⟨x, hx⟩ : ∃ x, x = 1 + pickV n2 60000 + (k : Int) := ⟨_, rfl⟩
      have hx1 : 1 ≤ x := by omega
      have hx2 : x ≤ 65535 := by omega
      have HXX := Lib.hid hx
      have hw1 : IntKind.i64.wrap (1 + pickV n2 60000 + (k : Int)) = x := by rw [hx]; exact IntWalk.i64_in _ (by omega)
      go_wp2_with fail
      rw [← hx]
      clear hx hw1
      go_loop [13, 14] (fun sh si => ∃ i : Nat, i ≤ p.length ∧ si = .int .i64 i ∧ sh = .bool (decide (x ∈ p.take i))) (fun _ si => p.length - (intOf si).toNat)
      case atStart => exact ⟨0, Nat.zero_le _, rfl, by simp⟩
      case round =>
        obtain ⟨i, hi, rfl, rfl⟩ := hrel
        by_cases hlt' : i < p.length
        · obtain ⟨z, hz⟩ : ∃ z, p[i]? = some z := ⟨_, List.getElem?_eq_getElem hlt'⟩
          obtain ⟨b', o', rfl, hbb, hcc⟩ := ZA.out.rt.1.one (i := i) (x := .int .i64 z) (by simp [ints, hz])
          have HT2 := Lib.hid (show decide (x ∈ p.take (i + 1)) = (decide (x ∈ p.take i) || (z == x)) from by
            rw [Bool.eq_iff_iff, List.take_add_one, hz]
            simp only [Option.toList_some, List.mem_append, List.mem_singleton, decide_eq_true_eq, Bool.or_eq_true, beq_iff_eq]
            exact ⟨fun h => h.imp id Eq.symm, fun h => h.imp id Eq.symm⟩)
          have hi0' : (0 : Int) ≤ (i : Int) := by omega
          have hi1' : (i : Int) < (p.length : Int) := by omega
          clear hz
          cases hd : decide (x ∈ p.take i) with
          | true =>
            have HT3 := Lib.hid (show decide (x ∈ p.take (i + 1)) = true from by rw [HT2.out, hd]; rfl)
            clear hd
            go_wp2_with fail
            go_round
            case rel => exact ⟨i + 1, by omega, by go_num, by rw [HT3.out]⟩
            case measure => simp [intOf]; omega
          | false =>
            have HT3 := Lib.hid (show decide (x ∈ p.take (i + 1)) = (z == x) from by rw [HT2.out, hd]; rfl)
            clear hd
            go_wp2_with fail
            go_round
            case rel => exact ⟨i + 1, by omega, by go_num, by rw [HT3.out]⟩
            case measure => simp [intOf]; omega
        · have HT4 := Lib.hid (show p.take i = p from List.take_of_length_le (by omega))
          rw [HT4.out]
          by_cases hin : x ∈ p
          · have hq : decide (x ∈ p) = true := by simp [hin]
            rw [hq]
            have HN := Lib.hid (show (((1 ≤ y ∧ y ≤ 65535) ∧ y ∉ p) ∨ ∀ j : Nat, j < k + 1 → (1 + pickV n2 60000) + j ∈ p) from by
              rcases HY.out with h | h
              · exact .inl h
              · refine .inr fun j hj => ?_
                by_cases e : j = k
                · subst e; rw [← HXX.out]; exact hin
                · exact h j (by omega))
            clear hin hq
            go_wp2_with fail
            go_roundw
            case rel => exact ⟨k + 1, y, A, c, by omega, by go_num, OX.out, HN.out⟩
            case measure => simp [intOf]; omega
          · have hq : decide (x ∈ p) = false := by simp [hin]
            rw [hq]
            obtain ⟨g, off, e, hgb, hgc⟩ := OX.out.own.rd.one (i := p.length) (x := .int .i64 y) (by simp [ints])
            subst e
            obtain ⟨g4, o4, cur4, e4, hh4, -, hx4⟩ := OX.out.own.2.2.2.2.2 (by have := OX.out.own.2.1; simp at this; omega)
            injection e4 with e4
            injection e4 with e1 e2
            subst e1 e2
            have rf := frozen_of_row _ g (off + p.length) _ _ hh4
            have OP := Lib.hid (OX.out.put (k := p.length) (by simp) x)
            have hset : (p ++ [y]).set p.length x = p ++ [x] := by rw [List.set_append_right _ _ (Nat.le_refl _)]; simp
            simp only [hset] at OP
            have hlen : (p ++ [y]).length = p.length + 1 := by simp
            simp only [hlen] at m2
            have k1 : (0 : Int) ≤ (p.length : Int) := by omega
            have k3 : (p.length : Int) < (p.length : Int) + 1 := by omega
            have HN := Lib.hid (show (((1 ≤ x ∧ x ≤ 65535) ∧ x ∉ p) ∨ ∀ j : Nat, j < k + 1 → (1 + pickV n2 60000) + j ∈ p) from .inl ⟨⟨hx1, hx2⟩, hin⟩)
            clear hin hq hh4 hx4 hset hlen
            go_wp2_with fail
            go_roundw
            case rel => exact ⟨k + 1, x, _, c, by omega, by go_num, OP.out, HN.out⟩
            case measure => simp [intOf]; omega
    · have hk20 : k = 20 := by omega
      subst hk20
      have HG := Lib.hid (show (1 ≤ y ∧ y ≤ 65535) ∧ y ∉ p from by
        rcases HY.out with h | h
        · exact h
        · have := nodup_le 20 p _ HPO.out.2.1 h
          omega)
      have HRT := Lib.hid (snoc_right HPO.out hl11 HG.out.1 HG.out.2)
      have HX : Hid (∀ wy, Below wr.heap.size wr wy → (wy.cell? ⟨w2.heap.size, 0, none⟩ = some (.int .i64 2) ∧ wy.cell? ⟨w2.heap.size, 1, none⟩ = some (.int .i64 0) ∧ wy.cell? ⟨w2.heap.size, 2, none⟩ = some (.slice A0 p.length d0)) ∧ (wy.cell? ⟨v1.heap.size, 0, none⟩ = some (.int .i64 2) ∧ wy.cell? ⟨v1.heap.size, 1, none⟩ = some (.int .i64 0) ∧ wy.cell? ⟨v1.heap.size, 2, none⟩ = some (.slice A (p.length + 1) c))) := Lib.hid (fun wy hb => by
        have h := And.intro (ZA.out.call hb).at_ (OX.out.call hb).at_
        simp only [List.length_append, List.length_cons, List.length_nil, Nat.zero_add] at h
        exact h)
      have P1 : Hid (∀ wy, Below wr.heap.size wr wy → Calls Tryd.prog 12 #[.agg #[.int .i64 2, .int .i64 0, .slice A (p.length + 1) c]] wy fun e w' => e = .returned (.bool true) ∧ Below wy.heap.size wy w') := Lib.hid (fun wy hb => by
        have h := (right_rt ⟨2, 0, p ++ [y]⟩ A c wy (OX.out.call hb).rt)
        rw [HRT.out] at h
        simp only [rtV, List.length_append, List.length_cons, List.length_nil, Nat.zero_add] at h
        exact h)
      have P2 : Hid (∀ wy, Below wr.heap.size wr wy → Calls Tryd.prog 21 #[.agg #[.int .i64 2, .int .i64 0, .slice A0 p.length d0], .agg #[.int .i64 2, .int .i64 0, .slice A (p.length + 1) c]] wy fun e w' => e = .returned (.bool true) ∧ Below wy.heap.size wy w') := Lib.hid (fun wy hb => by
        have h := (better_rt ⟨2, 0, p⟩ ⟨2, 0, p ++ [y]⟩ A0 A d0 c wy (ZA.out.call hb).rt (OX.out.call hb).rt)
        rw [snoc_worse] at h
        simp only [rtV, List.length_append, List.length_cons, List.length_nil, Nat.zero_add] at h
        exact h)
      have P3 : Hid (∀ wy, Below wr.heap.size wr wy → Calls Tryd.prog 17 #[.agg #[.int .i64 2, .int .i64 0, .slice A (p.length + 1) c]] wy fun e w' => e = .returned (.int .i64 ((p.length : Int) + 1)) ∧ Below wy.heap.size wy w') := Lib.hid (fun wy hb => by
        have h := (length_rt ⟨2, 0, p ++ [y]⟩ A c wy)
        simp only [rtV, rtLen, List.length_append, List.length_cons, List.length_nil, Nat.zero_add] at h
        simpa using h)
      have P4 : Hid (∀ wy, Below wr.heap.size wr wy → Calls Tryd.prog 17 #[.agg #[.int .i64 2, .int .i64 0, .slice A0 p.length d0]] wy fun e w' => e = .returned (.int .i64 (p.length : Int)) ∧ Below wy.heap.size wy w') := Lib.hid (fun wy hb => length_rt ⟨2, 0, p⟩ A0 d0 wy)
      have hs0 : Below wr.heap.size wr wr := Below.refl _ _
      have hsd : Below wr.heap.size wr wr.drew := hs0.trans ⟨rfl, rfl, rfl, Nat.le_refl _, fun _ _ => rfl⟩
      have BZ := Lib.hid (since_trans BW.out OX.out.below)
      have hw9 : IntKind.i64.wrap ((p.length : Int) + 1) = (p.length : Int) + 1 := IntWalk.i64_in _ (by omega)
      clear g0 g1 g2 m0 m1 m2 hkt
      go_wp2_with fail
      refine wp_region_held_drew (S := (fun wx => (wx.cell? ⟨w2.heap.size, 0, none⟩ = some (.int .i64 2) ∧ wx.cell? ⟨w2.heap.size, 1, none⟩ = some (.int .i64 0) ∧ wx.cell? ⟨w2.heap.size, 2, none⟩ = some (.slice A0 p.length d0)) ∧ (wx.cell? ⟨v1.heap.size, 0, none⟩ = some (.int .i64 2) ∧ wx.cell? ⟨v1.heap.size, 1, none⟩ = some (.int .i64 0) ∧ wx.cell? ⟨v1.heap.size, 2, none⟩ = some (.slice A (p.length + 1) c)))) (by kernel_rfl) (HX.out _ hsd) (fun hHeld0 => ?_)
      refine take_list (i := 0) (v := ?_) rfl (by kernel_rfl) (by kernel_rfl) (by kernel_rfl) (fun _ _ _ h => h) (Or.inl ⟨by rfl, ?_⟩) (by assumption) ?_
      rotate_left
      · (intro w hSw; (try dsimp only at hSw); go_simp; try (with_reducible rfl))
      try simp only [Act.put, List.setIfInBounds_toArray, List.set_cons_zero, List.set_cons_succ]
      refine take_list (i := 1) (v := ?_) rfl (by kernel_rfl) (by kernel_rfl) (by kernel_rfl) (fun _ _ _ h => h) (Or.inl ⟨by rfl, ?_⟩) (by assumption) ?_
      rotate_left
      · (intro w hSw; (try dsimp only at hSw); go_simp; try (with_reducible rfl))
      try simp only [Act.put, List.setIfInBounds_toArray, List.set_cons_zero, List.set_cons_succ]
      refine take_list (i := 2) (v := ?_) rfl (by kernel_rfl) (by kernel_rfl) (by kernel_rfl) (fun _ _ _ h => h) (Or.inl ⟨by rfl, ?_⟩) (by assumption) ?_
      rotate_left
      · (intro w hSw; (try dsimp only at hSw); go_simp; try (with_reducible rfl))
      try simp only [Act.put, List.setIfInBounds_toArray, List.set_cons_zero, List.set_cons_succ]
      refine wpAnyH_ready (rs := [3]) (by kernel_rfl) (by simp) ?_
      refine cons_list rfl (fun K hK => ?_) AllReadyH.nil
      go_simp
      (go_at_call 12; refine (P1.out _ (by assumption)).mono ?_; rintro e wn ⟨rfl, hbn⟩; (have hsn := since_trans (by assumption) hbn))
      refine hK.out _ _ (HX.out _ (by assumption)) (fun hHeld1 => ?_)
      clear hK K hHeld0
      try simp only [Act.put, List.setIfInBounds_toArray, List.set_cons_zero, List.set_cons_succ]
      refine take_list (i := 4) (v := ?_) rfl (by kernel_rfl) (by kernel_rfl) (by kernel_rfl) (fun _ _ _ h => h) (Or.inl ⟨by rfl, ?_⟩) (by assumption) ?_
      rotate_left
      · (intro w hSw; (try dsimp only at hSw); go_simp; try (with_reducible rfl))
      try simp only [Act.put, List.setIfInBounds_toArray, List.set_cons_zero, List.set_cons_succ]
      refine take_list (i := 5) (v := ?_) rfl (by kernel_rfl) (by kernel_rfl) (by kernel_rfl) (fun _ _ _ h => h) (Or.inl ⟨by rfl, ?_⟩) (by assumption) ?_
      rotate_left
      · (intro w hSw; (try dsimp only at hSw); go_simp; try (with_reducible rfl))
      try simp only [Act.put, List.setIfInBounds_toArray, List.set_cons_zero, List.set_cons_succ]
      refine take_list (i := 6) (v := ?_) rfl (by kernel_rfl) (by kernel_rfl) (by kernel_rfl) (fun _ _ _ h => h) (Or.inl ⟨by rfl, ?_⟩) (by assumption) ?_
      rotate_left
      · (intro w hSw; (try dsimp only at hSw); go_simp; try (with_reducible rfl))
      try simp only [Act.put, List.setIfInBounds_toArray, List.set_cons_zero, List.set_cons_succ]
      refine take_list (i := 7) (v := ?_) rfl (by kernel_rfl) (by kernel_rfl) (by kernel_rfl) (fun _ _ _ h => h) (Or.inl ⟨by rfl, ?_⟩) (by assumption) ?_
      rotate_left
      · (intro w hSw; (try dsimp only at hSw); go_simp; try (with_reducible rfl))
      try simp only [Act.put, List.setIfInBounds_toArray, List.set_cons_zero, List.set_cons_succ]
      refine wpAnyH_ready (rs := [8]) (by kernel_rfl) (by simp) ?_
      refine cons_list rfl (fun K hK => ?_) AllReadyH.nil
      go_simp
      (go_at_call 21; refine (P2.out _ (by assumption)).mono ?_; rintro e wn ⟨rfl, hbn⟩; (have hsn := since_trans (by assumption) hbn))
      refine hK.out _ _ (HX.out _ (by assumption)) (fun hHeld2 => ?_)
      clear hK K hHeld1
      try simp only [Act.put, List.setIfInBounds_toArray, List.set_cons_zero, List.set_cons_succ]
      refine take_list (i := 9) (v := ?_) rfl (by kernel_rfl) (by kernel_rfl) (by kernel_rfl) (fun _ _ _ h => h) (Or.inl ⟨by rfl, ?_⟩) (by assumption) ?_
      rotate_left
      · (intro w hSw; (try dsimp only at hSw); go_simp; try (with_reducible rfl))
      try simp only [Act.put, List.setIfInBounds_toArray, List.set_cons_zero, List.set_cons_succ]
      refine take_list (i := 10) (v := ?_) rfl (by kernel_rfl) (by kernel_rfl) (by kernel_rfl) (fun _ _ _ h => h) (Or.inl ⟨by rfl, ?_⟩) (by assumption) ?_
      rotate_left
      · (intro w hSw; (try dsimp only at hSw); go_simp; try (with_reducible rfl))
      try simp only [Act.put, List.setIfInBounds_toArray, List.set_cons_zero, List.set_cons_succ]
      refine take_list (i := 11) (v := ?_) rfl (by kernel_rfl) (by kernel_rfl) (by kernel_rfl) (fun _ _ _ h => h) (Or.inl ⟨by rfl, ?_⟩) (by assumption) ?_
      rotate_left
      · (intro w hSw; (try dsimp only at hSw); go_simp; try (with_reducible rfl))
      try simp only [Act.put, List.setIfInBounds_toArray, List.set_cons_zero, List.set_cons_succ]
      refine take_list (i := 13) (v := ?_) rfl (by kernel_rfl) (by kernel_rfl) (by kernel_rfl) (fun _ _ _ h => h) (Or.inl ⟨by rfl, ?_⟩) (by assumption) ?_
      rotate_left
      · (intro w hSw; (try dsimp only at hSw); go_simp; try (with_reducible rfl))
      try simp only [Act.put, List.setIfInBounds_toArray, List.set_cons_zero, List.set_cons_succ]
      refine wpAnyH_ready (rs := [12]) (by kernel_rfl) (by simp) ?_
      refine cons_list rfl (fun K hK => ?_) AllReadyH.nil
      go_simp
      (go_at_call 17; refine (P3.out _ (by assumption)).mono ?_; rintro e wn ⟨rfl, hbn⟩; (have hsn := since_trans (by assumption) hbn))
      refine hK.out _ _ (HX.out _ (by assumption)) (fun hHeld3 => ?_)
      clear hK K hHeld2
      try simp only [Act.put, List.setIfInBounds_toArray, List.set_cons_zero, List.set_cons_succ]
      refine wpAnyH_ready (rs := [14]) (by kernel_rfl) (by simp) ?_
      refine cons_list rfl (fun K hK => ?_) AllReadyH.nil
      go_simp
      (go_at_call 17; refine (P4.out _ (by assumption)).mono ?_; rintro e wn ⟨rfl, hbn⟩; (have hsn := since_trans (by assumption) hbn))
      refine hK.out _ _ (HX.out _ (by assumption)) (fun hHeld4 => ?_)
      clear hK K hHeld3
      try simp only [Act.put, List.setIfInBounds_toArray, List.set_cons_zero, List.set_cons_succ]
      refine take_list (i := 15) (v := ?_) rfl (by kernel_rfl) (by kernel_rfl) (by kernel_rfl) (fun _ _ _ h => h) (Or.inl ⟨by rfl, ?_⟩) (by assumption) ?_
      rotate_left
      · (intro w hSw; (try dsimp only at hSw); go_simp; try (with_reducible rfl))
      try simp only [Act.put, List.setIfInBounds_toArray, List.set_cons_zero, List.set_cons_succ]
      refine take_list (i := 16) (v := ?_) rfl (by kernel_rfl) (by kernel_rfl) (by kernel_rfl) (fun _ _ _ h => h) (Or.inl ⟨by rfl, ?_⟩) (by assumption) ?_
      rotate_left
      · (intro w hSw; (try dsimp only at hSw); go_simp; try (with_reducible rfl))
      try simp only [Act.put, List.setIfInBounds_toArray, List.set_cons_zero, List.set_cons_succ]
      refine take_list (i := 17) (v := ?_) rfl (by kernel_rfl) (by kernel_rfl) (by kernel_rfl) (fun _ _ _ h => h) (Or.inl ⟨by rfl, ?_⟩) (by assumption) ?_
      rotate_left
      · (intro w hSw; (try dsimp only at hSw); go_simp; try (with_reducible rfl))
      try simp only [Act.put, List.setIfInBounds_toArray, List.set_cons_zero, List.set_cons_succ]
      refine take_list (i := 18) (v := ?_) rfl (by kernel_rfl) (by kernel_rfl) (by kernel_rfl) (fun _ _ _ h => h) (Or.inl ⟨by rfl, ?_⟩) (by assumption) ?_
      rotate_left
      · (intro w hSw; (try dsimp only at hSw); go_simp; try (with_reducible rfl))
      try simp only [Act.put, List.setIfInBounds_toArray, List.set_cons_zero, List.set_cons_succ]
      refine wpAnyH_done (by kernel_rfl) ?_ _
      clear hHeld4
      go_wp2
      go_ret
      exact ⟨rfl, since_trans BZ.out hsn⟩
end Go.Proofs.YtmioaanbehacgaaDoor

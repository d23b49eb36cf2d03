/- The walk of backstaylaw06.AttrWrong. -/
import Derived.Test.YtmioaanbehacgaaDoorOwnBox
import Derived.Test.YtmioaanbehacgaaDoorRegs
namespace Go.Proofs.YtmioaanbehacgaaDoor
set_option linter.unusedSimpArgs false
set_option linter.unusedVariables false
open Go.RowKit

/-! ### Plainly -/
theorem wrong_cost {k c : Int} {p : List Int} (hc : c = 16 ∨ c = -1) : rtRightB ⟨k, c, p⟩ = false := by
  unfold rtRightB
  rcases hc with rfl | rfl <;> simp
theorem wrong_kind {k c : Int} {p : List Int} (hk : 3 ≤ k) : rtRightB ⟨k, c, p⟩ = false := by
  unfold rtRightB
  dsimp only
  rw [if_neg (by omega), if_neg (by omega), if_neg (by omega)]
theorem wrong_list {k c : Int} {p : List Int} (h0 : p ≠ []) (h : listB p = false) : rtRightB ⟨k, c, p⟩ = false := by
  unfold rtRightB
  have : p.length ≠ 0 := by simpa using h0
  dsimp only
  rw [h]
  simp [this]
theorem wrong_num {k c x : Int} {p : List Int} (hx : badNum x = true) : rtRightB ⟨k, c, p ++ [x]⟩ = false :=
  wrong_list (by simp) (by unfold listB; rw [show (p ++ [x]).any badNum = true from by simp [hx]]; simp)
theorem wrong_set {k c x y : Int} {p : List Int} {i : Nat} (hi : i < p.length) : rtRightB ⟨k, c, (p ++ [x, x]).set i y⟩ = false := by
  rw [List.set_append_left _ _ hi]
  exact wrong_list (by simp) (by unfold listB; rw [show decide (p.set i y ++ [x, x]).Nodup = false from by simp [List.nodup_append]]; simp)
theorem wrong_two {k c x : Int} {p : List Int} : rtRightB ⟨k, c, p ++ [x, x]⟩ = false :=
  wrong_list (by simp) (by unfold listB; rw [show decide (p ++ [x, x]).Nodup = false from by simp [List.nodup_append]]; simp)

theorem below_drew {w wx : World} (h : Below w.heap.size w wx) : Below w.heap.size w wx.drew := h.trans ⟨rfl, rfl, rfl, Nat.le_refl _, fun _ _ => rfl⟩
theorem ints_pad {p : List Int} {k : Nat} (hk : k < p.length) : (ints ((p ++ [65535, 65535]).set k 65535))[p.length + 1]? = some (.int .i64 65535) := by
  have h : ((p ++ [65535, 65535]).set k (65535 : Int))[p.length + 1]? = some 65535 := by
    rw [List.set_append_left _ _ hk, List.getElem?_append_right (by simp)]
    simp
  unfold ints; rw [List.getElem?_map, h]; rfl
theorem ints_at2 {p : List Int} {k : Nat} (hk : k < p.length) : (ints (p ++ [65535, 65535]))[k]? = some (.int .i64 (p.getD k 0)) := by
  have h : (p ++ [(65535 : Int), 65535])[k]? = some (p.getD k 0) := by
    rw [List.getElem?_append_left hk, List.getD, List.getElem?_eq_getElem hk]; rfl
  unfold ints; rw [List.getElem?_map, h]; rfl
set_option maxRecDepth 100000 in
set_option maxHeartbeats 8000000 in
theorem attrWrong_walk (a0 : Option Addr) (c0 : Nat) (l0 : List Int) (n1 n2 : Int) (w : World) (h0 : InRow w a0 c0 l0) (k1 : In64 n1) (k2 : In64 n2) (ht : Tab w) :
    Calls Tryd.prog 8 #[.slice a0 l0.length c0, .int .i64 n1, .int .i64 n2] w fun e w' => e = .returned (.bool true) ∧ Below w.heap.size w w' := by
  generalize hR0 : routeR l0 = r0
  have K0 := Lib.hid hR0
  have O0 := Lib.hid (hR0 ▸ routeR_ok l0)
  have H0 := Lib.hid h0
  have HT := Lib.hid ht
  have I1 := Lib.hid k1
  have I2 := Lib.hid k2
  obtain ⟨i0, hi0, hzz0, hzs0, hzb0⟩ := info_parts Tryd.info_int
  clear hR0 h0 ht k1 k2
  go_enter Tryd.func8, Tryd.ntmps8
  go_wp2_with fail
  refine (awake6 _ HT.out).mono ?_
  rintro e w1 ⟨rfl, hb1⟩
  have J0 := Lib.hid (H0.out.call hb1)
  have B1 := Lib.hid hb1
  clear hb1
  go_wp2_with fail
  refine (route_any l0 _ _ _ J0.out.rd J0.out.in64 J0.out.len).mono ?_
  rintro e w2 ⟨A0, d0, rfl, ho, hb⟩
  rw [K0.out] at ho ⊢
  have B2 := Lib.hid (since_trans B1.out hb)
  have X0 := Lib.hid (Box.new (RtR.of_own ho))
  have B3 := Lib.hid (since_alloc B2.out (.cells #[.int .i64 r0.kind, .int .i64 r0.cost, .slice A0 r0.path.length d0] 24))
  have hsz := B2.out.size
  clear hb ho
  obtain ⟨rk, rc, p⟩ := r0
  unfold rtV
  have hX := X0.out
  obtain ⟨g0, g1, g2⟩ := hX.at_
  clear hX
  have hp12 : p.length ≤ 12 := O0.out.short
  have HRD := Lib.hid (fun (wx : World) (hb : Below (w2.alloc (.cells #[.int .i64 rk, .int .i64 rc, .slice A0 p.length d0] 24)).heap.size (w2.alloc (.cells #[.int .i64 rk, .int .i64 rc, .slice A0 p.length d0] 24)) wx) => (X0.out.call hb).rt.1)
  go_upto_region 3 with fail
  go_cut [] (fun wx => ∃ (A : Option Addr) (c : Nat), OB w wx w2.heap.size ⟨rk, rc, p⟩ A c)
  case first =>
    go_wp2_with ((at_builtin; refine wpList_app _ rfl _ _ 22 rfl (w2.heap.size + 1) 3 i0 (.int .i64 0) 1 8 Tryd.underlying22 hi0 hzz0 hzs0 hzb0 rfl (by decide) _ _ _ [] rfl (by exact Own.nil _ _ _ _) _ p.length _ (ints p) rfl ((HRD.out _ (by repeat (first | assumption | exact Below.refl _ _ | (refine Below.alloc ?_ (by first | (simp; done) | (simp; omega)) _)))).more (by first | exact Nat.le_refl _ | (simp; done) | (simp; omega))) (by intro u hu; simp [ints] at hu; obtain ⟨z, _, rfl⟩ := hu; rfl) (by unfold maxLen; omega) (by omega) (by first | (simp; done) | (simp; omega)) ?_; intro A2 c2 w2' hown2 hgrow2 hblk2 _; (have hz2' := hgrow2.size)); (obtain ⟨hfr, -, -, hc2⟩ := X0.out.grown hgrow2); (have hf2 := hfr 2); (have HOB := OB.begin B3.out hsz X0.out hgrow2 (by simp) hown2); (rw [Nat.zero_add] at HOB); clear hfr)
    go_meet
    case rel => exact ⟨_, _, HOB⟩
  case rest =>
  obtain ⟨A1, d1, hO⟩ := hcut
  obtain ⟨v1, rfl⟩ : ∃ v, v = wc := ⟨_, rfl⟩
  have O1 := Lib.hid hO
  obtain ⟨m0, m1, m2⟩ := hO.at_
  have f0 := hO.free 0
  have f1 := hO.free 1
  have f2 := hO.free 2
  clear hO g0 g1 g2
  have hlt := O1.out.lt
  have hmx : (0 : Int) < max (p.length : Int) 1 ∧ max (p.length : Int) 1 < 1000000 := by omega
  obtain ⟨hmx0, hmx1⟩ := hmx
  go_wp2_with fail
  refine (pick6_any n2 _ _ I2.out hmx0 (by omega)).mono ?_
  rintro e w' ⟨rfl, rfl⟩
  have hk := pickV_in (c := n2) hmx0
  obtain ⟨hk0, hk1⟩ := hk
  generalize hkv : pickV n2 (max (p.length : Int) 1) = k at *
  clear hkv
  go_wp2_with fail
  refine (pick6_any n1 6 _ I1.out (by omega) (by omega)).mono ?_
  rintro e w' ⟨rfl, rfl⟩
  have hs := pickV_in (c := n1) (n := 6) (by omega)
  obtain ⟨hs0, hs1⟩ := hs
  generalize hsv : pickV n1 6 = s at *
  clear hsv
  have hcs : s = 0 ∨ s = 1 ∨ s = 2 ∨ s = 3 ∨ s = 4 ∨ s = 5 := by omega
  rcases hcs with rfl | rfl | rfl | rfl | rfl | rfl
  all_goals clear hs0 hs1 HRD
  · have O2 := Lib.hid (O1.out.cost 16)
    go_wp2_with fail
    refine (right_rt _ _ _ _ O2.out.rt).mono ?_
    rintro e w3 ⟨rfl, hb3⟩
    rw [wrong_cost (.inl rfl)]
    have B9 := Lib.hid (since_trans O2.out.below hb3)
    clear hb3
    go_wp2
    go_ret
    exact ⟨rfl, B9.out⟩
  · have O2 := Lib.hid (O1.out.cost (-1))
    go_wp2_with fail
    refine (right_rt _ _ _ _ O2.out.rt).mono ?_
    rintro e w3 ⟨rfl, hb3⟩
    rw [wrong_cost (.inr rfl)]
    have B9 := Lib.hid (since_trans O2.out.below hb3)
    clear hb3
    go_wp2
    go_ret
    exact ⟨rfl, B9.out⟩
  · have hn9 := pickV_in (c := n2) (n := 9) (by omega)
    obtain ⟨hn90, hn91⟩ := hn9
    have O2 := Lib.hid (O1.out.kind (3 + pickV n2 9))
    go_wp2_with fail
    refine (pick6_any n2 9 _ I2.out (by omega) (by omega)).mono ?_
    rintro e w' ⟨rfl, rfl⟩
    go_wp2_with fail
    refine (right_rt _ _ _ _ O2.out.rt).mono ?_
    rintro e w3 ⟨rfl, hb3⟩
    rw [wrong_kind (by omega)]
    have B9 := Lib.hid (since_trans O2.out.below hb3)
    clear hb3
    go_wp2
    go_ret
    exact ⟨rfl, B9.out⟩
  · have HQ := Lib.hid (wrong_num (by decide) : rtRightB ⟨rk, rc, p ++ [65536]⟩ = false)
    go_upto_region 19 with (at_builtin; go_loud (refine wpList_app _ rfl _ _ 22 rfl (w2.heap.size + 1) 3 i0 (.int .i64 0) 1 8 Tryd.underlying22 hi0 hzz0 hzs0 hzb0 rfl (by decide) _ _ _ (ints p) rfl (O1.out.alloc _).own _ 1 _ [.int .i64 65536] rfl (Rd.new (by simp) rfl) (by intro u hu; simp at hu; subst hu; rfl) (by unfold maxLen; omega) (by omega) (by first | (simp; done) | (simp; omega)) ?_); intro A3 c3 w3' hown3 hgrow3 hblk3 _; (obtain ⟨hfr, hc0, hc1, hc2⟩ := (O1.out.alloc _).grownAt hgrow3); (have hf2 := hfr 2); (have O2 := Lib.hid (OB.path (q := p ++ [65536]) (n := p.length + 1) (O1.out.alloc _) (fun g h => (O1.out.alloc (.cells #[.int .i64 65536] 3)).own.from_ g h) hgrow3 (by simp) (by simpa [ints] using hown3))); clear hfr hgrow3 hown3 hblk3 m0 m1 m2 f0 f1 f2)
    clear hc0 hc1 hc2 hf2
    generalize w3'.setCell ⟨w2.heap.size, 2, none⟩ (.slice A3 (p.length + 1) c3) = wv at *
    generalize p ++ [65536] = q at *
    obtain ⟨a0, a1, a2⟩ := O2.out.at_
    go_wp2_with fail
    refine (right_rt ⟨rk, rc, q⟩ _ _ _ O2.out.rt).mono ?_
    rintro e w9 ⟨rfl, hb9⟩
    rw [HQ.out]
    have B9 := Lib.hid (since_trans O2.out.below hb9)
    clear hb9 a0 a1 a2
    go_wp2
    go_ret
    exact ⟨rfl, B9.out⟩
  · have HQ := Lib.hid (wrong_num (by decide) : rtRightB ⟨rk, rc, p ++ [0]⟩ = false)
    go_upto_region 19 with (at_builtin; go_loud (refine wpList_app _ rfl _ _ 22 rfl (w2.heap.size + 1) 3 i0 (.int .i64 0) 1 8 Tryd.underlying22 hi0 hzz0 hzs0 hzb0 rfl (by decide) _ _ _ (ints p) rfl (O1.out.alloc _).own _ 1 _ [.int .i64 0] rfl (Rd.new (by simp) rfl) (by intro u hu; simp at hu; subst hu; rfl) (by unfold maxLen; omega) (by omega) (by first | (simp; done) | (simp; omega)) ?_); intro A3 c3 w3' hown3 hgrow3 hblk3 _; (obtain ⟨hfr, hc0, hc1, hc2⟩ := (O1.out.alloc _).grownAt hgrow3); (have hf2 := hfr 2); (have O2 := Lib.hid (OB.path (q := p ++ [0]) (n := p.length + 1) (O1.out.alloc _) (fun g h => (O1.out.alloc (.cells #[.int .i64 0] 3)).own.from_ g h) hgrow3 (by simp) (by simpa [ints] using hown3))); clear hfr hgrow3 hown3 hblk3 m0 m1 m2 f0 f1 f2)
    clear hc0 hc1 hc2 hf2
    generalize w3'.setCell ⟨w2.heap.size, 2, none⟩ (.slice A3 (p.length + 1) c3) = wv at *
    generalize p ++ [0] = q at *
    obtain ⟨a0, a1, a2⟩ := O2.out.at_
    go_wp2_with fail
    refine (right_rt ⟨rk, rc, q⟩ _ _ _ O2.out.rt).mono ?_
    rintro e w9 ⟨rfl, hb9⟩
    rw [HQ.out]
    have B9 := Lib.hid (since_trans O2.out.below hb9)
    clear hb9 a0 a1 a2
    go_wp2
    go_ret
    exact ⟨rfl, B9.out⟩
  · go_upto_region 6 with fail
    go_cut [] (fun wx => ∃ (A : Option Addr) (c : Nat), OB w wx w2.heap.size ⟨rk, rc, p ++ [65535, 65535]⟩ A c)
    case first =>
      go_wp2_with (at_builtin; go_loud (refine wpList_app _ rfl _ _ 22 rfl (w2.heap.size + 1) 3 i0 (.int .i64 0) 1 8 Tryd.underlying22 hi0 hzz0 hzs0 hzb0 rfl (by decide) _ _ _ (ints p) rfl (O1.out.alloc _).own _ 2 _ [.int .i64 65535, .int .i64 65535] rfl (Rd.new (by simp) rfl) (by intro u hu; simp at hu; subst hu; rfl) (by unfold maxLen; omega) (by omega) (by first | (simp; done) | (simp; omega)) ?_); intro A3 c3 w3' hown3 hgrow3 hblk3 _; (obtain ⟨hfr, hc0, hc1, hc2⟩ := (O1.out.alloc _).grownAt hgrow3); (have hf2 := hfr 2); (have O2 := Lib.hid (OB.path (q := p ++ [65535, 65535]) (n := p.length + 2) (O1.out.alloc _) (fun g h => (O1.out.alloc (.cells #[.int .i64 65535, .int .i64 65535] 3)).own.from_ g h) hgrow3 (by simp) (by simpa [ints] using hown3))); clear hfr hgrow3 hown3 hblk3)
      go_meet
      case rel => exact ⟨_, _, O2.out⟩
    case rest =>
    obtain ⟨A2, c2, hO⟩ := hcut
    have O2 := Lib.hid hO
    clear m0 m1 m2 f0 f1 f2 hO O1
    obtain ⟨a0, a1, a2⟩ := O2.out.at_
    have hlen : (p ++ [(65535 : Int), 65535]).length = p.length + 2 := by simp
    simp only [hlen] at a2
    have s1 : IntKind.i64.wrap ((p.length : Int) + 2 - 2) = (p.length : Int) := by rw [show (p.length : Int) + 2 - 2 = p.length from by omega]; exact IntWalk.i64_in _ (by omega)
    have s2 : IntKind.i64.wrap ((p.length : Int) + 2 - 1) = (p.length : Int) + 1 := by rw [show (p.length : Int) + 2 - 1 = (p.length : Int) + 1 from by omega]; exact IntWalk.i64_in _ (by omega)
    clear hk1 hmx0 hmx1 hlt
    by_cases hkp : k < p.length
    · obtain ⟨k, rfl⟩ : ∃ n : Nat, k = n := ⟨k.toNat, by omega⟩
      have hkn : k < p.length := by omega
      obtain ⟨g, off, e, hgb, hgc⟩ := O2.out.own.rd.one (i := p.length + 1) (x := .int .i64 65535) (by simp [ints])
      subst e
      have O3 : Hid (OB w ((wc.setCell ⟨g, off + k, none⟩ (.int .i64 65535)).drew) w2.heap.size ⟨rk, rc, (p ++ [65535, 65535]).set k 65535⟩ (some ⟨g, off, none⟩) c2) := Lib.hid ((O2.out.call (below_drew (Below.refl _ _))).put (k := k) (by simp; omega) 65535)
      have r1 := O3.out.at_.2.2
      simp only [List.length_set, hlen] at r1
      obtain ⟨g', off', e, -, r2⟩ := O3.out.own.rd.one (i := p.length + 1) (x := .int .i64 65535) (ints_pad (by omega))
      injection e with e
      injection e with e1 e2
      subst e1 e2
      have RR := Lib.hid (And.intro r1 r2)
      obtain ⟨g4, o4, cur4, e4, hh4, -, hx4⟩ := O2.out.own.2.2.2.2.2 (by have := O2.out.own.2.1; simp at this; omega)
      injection e4 with e4
      injection e4 with e1 e2
      subst e1 e2
      have rf := frozen_of_row wc g (off + k) _ _ hh4
      have r3 := cell_of_row wc g (off + k) _ _ _ hh4
      have r4 : cur4[off + k]? = some (.int .i64 (p.getD k 0)) := hx4 k _ (ints_at2 hkn)
      rw [r4] at r3
      have k0 : (0 : Int) ≤ (k : Int) := by omega
      have k1 : (k : Int) < (p.length : Int) + 2 := by omega
      have k2 : (0 : Int) ≤ (p.length : Int) + 1 := by omega
      have k3 : (p.length : Int) + 1 < (p.length : Int) + 2 := by omega
      clear r1 r2 r4 hx4
      go_wp2_with fail
      refine wp_region_held_drew (S := (fun wx => wx.cell? ⟨w2.heap.size, 2, none⟩ = some (.slice (some ⟨g, off, none⟩) (p.length + 2) c2) ∧ wx.cell? ⟨g, off + (p.length + 1), none⟩ = some (.int .i64 65535))) (by kernel_rfl) (⟨a2, hgc⟩) (fun hHeld0 => ?_)
      refine take_list (i := 0) (v := ?_) rfl (by kernel_rfl) (by kernel_rfl) (by kernel_rfl) (fun _ _ _ h => h) (Or.inl ⟨by rfl, ?_⟩) (by assumption) ?_
      rotate_left
      · (intro w hSw; (try dsimp only at hSw); go_simp; try (with_reducible rfl))
      try simp only [Act.put, List.setIfInBounds_toArray, List.set_cons_zero, List.set_cons_succ]
      refine take_list (i := 1) (v := ?_) rfl (by kernel_rfl) (by kernel_rfl) (by kernel_rfl) (fun _ _ _ h => h) (Or.inl ⟨by rfl, ?_⟩) (by assumption) ?_
      rotate_left
      · (intro w hSw; (try dsimp only at hSw); go_simp; try (with_reducible rfl))
      try simp only [Act.put, List.setIfInBounds_toArray, List.set_cons_zero, List.set_cons_succ]
      refine take_list (i := 2) (v := ?_) rfl (by kernel_rfl) (by kernel_rfl) (by kernel_rfl) (fun _ _ _ h => h) (Or.inl ⟨by rfl, ?_⟩) (by assumption) ?_
      rotate_left
      · (intro w hSw; (try dsimp only at hSw); go_simp; try (with_reducible rfl))
      try simp only [Act.put, List.setIfInBounds_toArray, List.set_cons_zero, List.set_cons_succ]
      refine take_list (i := 3) (v := ?_) rfl (by kernel_rfl) (by kernel_rfl) (by kernel_rfl) (fun _ _ _ h => h) (Or.inl ⟨by rfl, ?_⟩) (by assumption) ?_
      rotate_left
      · (intro w hSw; (try dsimp only at hSw); go_simp; try (with_reducible rfl))
      try simp only [Act.put, List.setIfInBounds_toArray, List.set_cons_zero, List.set_cons_succ]
      refine take_list (i := 4) (v := ?_) rfl (by kernel_rfl) (by kernel_rfl) (by kernel_rfl) (fun _ _ _ h => h) (Or.inl ⟨by rfl, ?_⟩) (by assumption) ?_
      rotate_left
      · (intro w hSw; (try dsimp only at hSw); go_simp; try (with_reducible rfl))
      try simp only [Act.put, List.setIfInBounds_toArray, List.set_cons_zero, List.set_cons_succ]
      refine take_list (i := 5) (v := ?_) rfl (by kernel_rfl) (by kernel_rfl) (by kernel_rfl) (fun _ _ _ h => h) (Or.inl ⟨by rfl, ?_⟩) (by assumption) ?_
      rotate_left
      · (intro w hSw; (try dsimp only at hSw); go_simp; try (with_reducible rfl))
      try simp only [Act.put, List.setIfInBounds_toArray, List.set_cons_zero, List.set_cons_succ]
      refine take_list (i := 6) (v := ?_) rfl (by kernel_rfl) (by kernel_rfl) (by kernel_rfl) (fun _ _ _ h => h) (Or.inl ⟨by rfl, ?_⟩) (by assumption) ?_
      rotate_left
      · (intro w hSw; (try dsimp only at hSw); go_simp; try (with_reducible rfl))
      try simp only [Act.put, List.setIfInBounds_toArray, List.set_cons_zero, List.set_cons_succ]
      refine take_list (i := 7) (v := ?_) rfl (by kernel_rfl) (by kernel_rfl) (by kernel_rfl) (fun _ _ _ h => h) (Or.inl ⟨by rfl, ?_⟩) (by assumption) ?_
      rotate_left
      · (intro w hSw; (try dsimp only at hSw); go_simp; try (with_reducible rfl))
      try simp only [Act.put, List.setIfInBounds_toArray, List.set_cons_zero, List.set_cons_succ]
      refine take_list (i := 8) (v := ?_) rfl (by kernel_rfl) (by kernel_rfl) (by kernel_rfl) (fun _ _ _ h => h) (Or.inl ⟨by rfl, ?_⟩) (by assumption) ?_
      rotate_left
      · (intro w hSw; (try dsimp only at hSw); go_simp; try (with_reducible rfl))
      try simp only [Act.put, List.setIfInBounds_toArray, List.set_cons_zero, List.set_cons_succ]
      refine take_list (i := 9) (v := ?_) rfl (by kernel_rfl) (by kernel_rfl) (by kernel_rfl) (fun _ _ _ h => h) (Or.inl ⟨by rfl, ?_⟩) (by assumption) ?_
      rotate_left
      · (intro w hSw; (try dsimp only at hSw); go_simp; try (with_reducible rfl))
      try simp only [Act.put, List.setIfInBounds_toArray, List.set_cons_zero, List.set_cons_succ]
      refine take_list (i := 10) (v := ?_) rfl (by kernel_rfl) (by kernel_rfl) (by kernel_rfl) (fun _ _ _ h => h) (Or.inl ⟨by rfl, ?_⟩) (by assumption) ?_
      rotate_left
      · (intro w hSw; (try dsimp only at hSw); go_simp; try (with_reducible rfl))
      try simp only [Act.put, List.setIfInBounds_toArray, List.set_cons_zero, List.set_cons_succ]
      refine take_list (i := 11) (v := ?_) rfl (by kernel_rfl) (by kernel_rfl) (by kernel_rfl) (fun _ _ _ h => h) (Or.inl ⟨by rfl, ?_⟩) (by assumption) ?_
      rotate_left
      · (intro w hSw; (try dsimp only at hSw); go_simp; try (with_reducible rfl))
      try simp only [Act.put, List.setIfInBounds_toArray, List.set_cons_zero, List.set_cons_succ]
      refine wpAnyH_ready (rs := [12]) (by kernel_rfl) (by simp) ?_
      refine cons_list rfl (fun K hK => ?_) AllReadyH.nil
      go_simp
      refine hK.out _ _ (RR.out) (fun hHeld1 => ?_)
      clear hK K hHeld0
      try simp only [Act.put, List.setIfInBounds_toArray, List.set_cons_zero, List.set_cons_succ]
      refine wpAnyH_done (by kernel_rfl) ?_ _
      clear hHeld1
      clear r3 rf hh4 hgc a0 a1 a2 hlen
      have HQ := Lib.hid (wrong_set hkn : rtRightB ⟨rk, rc, (p ++ [65535, 65535]).set k 65535⟩ = false)
      clear RR
      go_upto_region 19 with fail
      generalize (wc.setCell ⟨g, off + k, none⟩ (.int .i64 65535)).drew = wv at *
      generalize (p ++ [65535, 65535]).set k 65535 = q at *
      obtain ⟨a0, a1, a2⟩ := O3.out.at_
      go_wp2_with fail
      refine (right_rt ⟨rk, rc, q⟩ _ _ _ O3.out.rt).mono ?_
      rintro e w9 ⟨rfl, hb9⟩
      rw [HQ.out]
      have B9 := Lib.hid (since_trans O3.out.below hb9)
      clear hb9 a0 a1 a2
      go_wp2
      go_ret
      exact ⟨rfl, B9.out⟩
    · have hkp' : (p.length : Int) ≤ k := by omega
      have hkq : decide (k < (p.length : Int)) = false := by simp; omega
      clear hkp s2 hk0
      have HQ := Lib.hid (wrong_two : rtRightB ⟨rk, rc, p ++ [65535, 65535]⟩ = false)
      go_upto_region 19 with fail
      clear a0 a1 a2 hlen
      generalize p ++ [65535, 65535] = q at *
      obtain ⟨a0, a1, a2⟩ := O2.out.at_
      go_wp2_with fail
      refine (right_rt ⟨rk, rc, q⟩ _ _ _ O2.out.rt).mono ?_
      rintro e w9 ⟨rfl, hb9⟩
      rw [HQ.out]
      have B9 := Lib.hid (since_trans O2.out.below hb9)
      clear hb9 a0 a1 a2
      go_wp2
      go_ret
      exact ⟨rfl, B9.out⟩
end Go.Proofs.YtmioaanbehacgaaDoor

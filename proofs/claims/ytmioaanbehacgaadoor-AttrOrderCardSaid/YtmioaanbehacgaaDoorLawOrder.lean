/- The walk of backstaylaw06.AttrOrder. -/
import Derived.Test.YtmioaanbehacgaaDoorBox
namespace Go.Proofs.YtmioaanbehacgaaDoor
set_option linter.unusedSimpArgs false
set_option linter.unusedVariables false
open Go.RowKit

set_option maxRecDepth 100000 in
set_option maxHeartbeats 8000000 in
theorem attrOrder_walk (a0 a1 a2 : Option Addr) (c0 c1 c2 : Nat) (l0 l1 l2 : List Int) (w : World) (h0 : InRow w a0 c0 l0) (h1 : InRow w a1 c1 l1) (h2 : InRow w a2 c2 l2) (ht : Tab w) :
    Calls Tryd.prog 4 #[.slice a0 l0.length c0, .slice a1 l1.length c1, .slice a2 l2.length c2] w fun e w' => e = .returned (.bool true) ∧ Below w.heap.size w w' := by
  generalize hR0 : routeR l0 = r0
  generalize hR1 : routeR l1 = r1
  generalize hR2 : routeR l2 = r2
  have K0 := Lib.hid hR0
  have K1 := Lib.hid hR1
  have K2 := Lib.hid hR2
  have O0 := Lib.hid (hR0 ▸ routeR_ok l0)
  have O1 := Lib.hid (hR1 ▸ routeR_ok l1)
  have H0 := Lib.hid h0
  have H1 := Lib.hid h1
  have H2 := Lib.hid h2
  have HT := Lib.hid ht
  clear hR0 hR1 hR2 h0 h1 h2 ht
  have hcases : (betterB r0 r1 = true ∧ betterB r1 r0 = false ∧ decide (r0 = r1) = false) ∨ (betterB r0 r1 = false ∧ betterB r1 r0 = true ∧ decide (r0 = r1) = false) ∨ (betterB r0 r1 = false ∧ betterB r1 r0 = false ∧ decide (r0 = r1) = true) := by
    by_cases e : r0 = r1
    · subst e
      exact .inr (.inr ⟨betterB_self _, betterB_self _, by simp⟩)
    · rcases betterB_total O0.out O1.out e with h | h
      · exact .inl ⟨h, betterB_asymm h, by simp [e]⟩
      · exact .inr (.inl ⟨betterB_asymm h, h, by simp [e]⟩)
  have start : ∀ (ab ba sm : Bool), betterB r0 r1 = ab → betterB r1 r0 = ba → decide (r0 = r1) = sm → (ab = true ∧ ba = false ∧ sm = false) ∨ (ab = false ∧ ba = true ∧ sm = false) ∨ (ab = false ∧ ba = false ∧ sm = true) →
      Calls Tryd.prog 4 #[.slice a0 l0.length c0, .slice a1 l1.length c1, .slice a2 l2.length c2] w fun e w' => e = .returned (.bool true) ∧ Below w.heap.size w w' := by
    intro ab ba sm hab hba hsm hc
    have HAB := Lib.hid hab
    have HBA := Lib.hid hba
    have HSM := Lib.hid hsm
    have HC := Lib.hid hc
    clear hab hba hsm hc hcases
    go_enter Tryd.func4, Tryd.ntmps4
    go_wp2_with fail
    refine (awake6 _ HT.out).mono ?_
    rintro e w1 ⟨rfl, hb1⟩
    have J0 := Lib.hid (H0.out.call hb1)
    have B1 := Lib.hid hb1
    clear hb1
    go_wp2_with fail
    refine (route_any l0 _ _ _ J0.out.rd J0.out.in64 J0.out.len).mono ?_
    rintro e w2 ⟨A0, d0, rfl, ho, hb⟩
    rw [K0.out] at ho ⊢
    have B2 := Lib.hid (since_trans B1.out hb)
    have X0 := Lib.hid (Box.new (RtR.of_own ho))
    have hs0 := B2.out.size
    clear hb ho
    unfold rtV
    go_wp2_with fail
    have B3 := Lib.hid (since_alloc B2.out (.cells #[.int .i64 r0.kind, .int .i64 r0.cost, .slice A0 r0.path.length d0] 24))
    refine (route_any l1 _ _ _ (H1.out.call B3.out).rd H1.out.in64 H1.out.len).mono ?_
    rintro e w3 ⟨A1, d1, rfl, ho, hb⟩
    rw [K1.out] at ho ⊢
    have B4 := Lib.hid (since_trans B3.out hb)
    have Y0 := Lib.hid (X0.out.call hb)
    have X1 := Lib.hid (Box.new (RtR.of_own ho))
    clear hb ho
    unfold rtV
    go_wp2_with fail
    have B5 := Lib.hid (since_alloc B4.out (.cells #[.int .i64 r1.kind, .int .i64 r1.cost, .slice A1 r1.path.length d1] 24))
    refine (route_any l2 _ _ _ (H2.out.call B5.out).rd H2.out.in64 H2.out.len).mono ?_
    rintro e w4 ⟨A2, d2, rfl, ho, hb⟩
    rw [K2.out] at ho ⊢
    have B6 := Lib.hid (since_trans B5.out hb)
    have Z0 := Lib.hid (((Y0.out.alloc _).call hb).alloc (.cells #[.int .i64 r2.kind, .int .i64 r2.cost, .slice A2 r2.path.length d2] 24))
    have Z1 := Lib.hid ((X1.out.call hb).alloc (.cells #[.int .i64 r2.kind, .int .i64 r2.cost, .slice A2 r2.path.length d2] 24))
    have Z2 := Lib.hid (Box.new (RtR.of_own ho))
    have B7 := Lib.hid (since_alloc B6.out (.cells #[.int .i64 r2.kind, .int .i64 r2.cost, .slice A2 r2.path.length d2] 24))
    obtain ⟨p0, p1, p2⟩ := Z0.out.at_
    obtain ⟨q0, q1, q2⟩ := Z1.out.at_
    obtain ⟨s0, s1, s2⟩ := Z2.out.at_
    clear hb ho
    unfold rtV
    go_wp2_with fail
    refine (better_rt r0 r1 _ _ _ _ _ Z0.out.rt Z1.out.rt).mono ?_
    rintro e w5 ⟨rfl, hb⟩
    rw [HAB.out]
    have B8 := Lib.hid (since_trans B7.out hb)
    have V0 := Lib.hid (Z0.out.call hb)
    have V1 := Lib.hid (Z1.out.call hb)
    have V2 := Lib.hid (Z2.out.call hb)
    clear p0 p1 p2 q0 q1 q2 s0 s1 s2 hb
    obtain ⟨p0, p1, p2⟩ := V0.out.at_
    obtain ⟨q0, q1, q2⟩ := V1.out.at_
    obtain ⟨s0, s1, s2⟩ := V2.out.at_
    go_wp2_with fail
    refine (better_rt r1 r0 _ _ _ _ _ V1.out.rt V0.out.rt).mono ?_
    rintro e w6 ⟨rfl, hb⟩
    rw [HBA.out]
    have B9 := Lib.hid (since_trans B8.out hb)
    have U0 := Lib.hid (V0.out.call hb)
    have U1 := Lib.hid (V1.out.call hb)
    have U2 := Lib.hid (V2.out.call hb)
    clear p0 p1 p2 q0 q1 q2 s0 s1 s2 hb
    obtain ⟨p0, p1, p2⟩ := U0.out.at_
    obtain ⟨q0, q1, q2⟩ := U1.out.at_
    obtain ⟨s0, s1, s2⟩ := U2.out.at_
    go_wp2_with fail
    refine (better_rt r1 r2 _ _ _ _ _ U1.out.rt U2.out.rt).mono ?_
    rintro e w7 ⟨rfl, hb⟩
    have B10 := Lib.hid (since_trans B9.out hb)
    have T0 := Lib.hid (U0.out.call hb)
    have T1 := Lib.hid (U1.out.call hb)
    have T2 := Lib.hid (U2.out.call hb)
    clear p0 p1 p2 q0 q1 q2 s0 s1 s2 hb
    obtain ⟨p0, p1, p2⟩ := T0.out.at_
    obtain ⟨q0, q1, q2⟩ := T1.out.at_
    obtain ⟨s0, s1, s2⟩ := T2.out.at_
    have HS : Hid (∀ wy, Below w7.heap.size w7 wy → Calls Tryd.prog 20 #[.agg #[.int .i64 r0.kind, .int .i64 r0.cost, .slice A0 r0.path.length d0], .agg #[.int .i64 r1.kind, .int .i64 r1.cost, .slice A1 r1.path.length d1]] wy fun e w' => e = .returned (.bool sm) ∧ Below wy.heap.size wy w') := Lib.hid (fun wy hb =>
      (refSame_any r0 r1 _ _ _ _ wy (T0.out.call hb).rt (T1.out.call hb).rt).mono fun e w' ⟨h1, h2⟩ => ⟨by rw [h1, HSM.out], h2⟩)
    have HA : Hid (∀ wy, Below w7.heap.size w7 wy → Calls Tryd.prog 21 #[.agg #[.int .i64 r0.kind, .int .i64 r0.cost, .slice A0 r0.path.length d0], .agg #[.int .i64 r0.kind, .int .i64 r0.cost, .slice A0 r0.path.length d0]] wy fun e w' => e = .returned (.bool false) ∧ Below wy.heap.size wy w') := Lib.hid (fun wy hb =>
      (better_rt r0 r0 _ _ _ _ wy (T0.out.call hb).rt (T0.out.call hb).rt).mono fun e w' ⟨h1, h2⟩ => ⟨by rw [h1, betterB_self], h2⟩)
    have HX : Hid (∀ wy, Below w7.heap.size w7 wy → wy.cell? ⟨w2.heap.size, 0, none⟩ = some (.int .i64 r0.kind) ∧ wy.cell? ⟨w2.heap.size, 1, none⟩ = some (.int .i64 r0.cost) ∧ wy.cell? ⟨w2.heap.size, 2, none⟩ = some (.slice A0 r0.path.length d0) ∧ wy.cell? ⟨w4.heap.size, 0, none⟩ = some (.int .i64 r2.kind) ∧ wy.cell? ⟨w4.heap.size, 1, none⟩ = some (.int .i64 r2.cost) ∧ wy.cell? ⟨w4.heap.size, 2, none⟩ = some (.slice A2 r2.path.length d2)) := Lib.hid (fun wy hb => by
      obtain ⟨x0, x1, x2⟩ := (T0.out.call hb).at_
      obtain ⟨y0, y1, y2⟩ := (T2.out.call hb).at_
      exact ⟨x0, x1, x2, y0, y1, y2⟩)
    rcases HC.out with ⟨rfl, rfl, rfl⟩ | ⟨rfl, rfl, rfl⟩ | ⟨rfl, rfl, rfl⟩
    · by_cases hbc : betterB r1 r2 = true
      · have HBC : Hid (∀ wy, Below w7.heap.size w7 wy → Calls Tryd.prog 21 #[.agg #[.int .i64 r0.kind, .int .i64 r0.cost, .slice A0 r0.path.length d0], .agg #[.int .i64 r2.kind, .int .i64 r2.cost, .slice A2 r2.path.length d2]] wy fun e w' => e = .returned (.bool true) ∧ Below wy.heap.size wy w') := Lib.hid (fun wy hb =>
          (better_rt r0 r2 _ _ _ _ wy (T0.out.call hb).rt (T2.out.call hb).rt).mono fun e w' ⟨h1, h2⟩ => ⟨by rw [h1, betterB_trans HAB.out hbc], h2⟩)
        rw [hbc]
        clear hbc
        go_wp2_with fail
        refine (HS.out _ (Below.refl _ _)).mono ?_
        rintro e w8 ⟨rfl, hb8⟩
        have C8 := Lib.hid hb8
        clear p0 p1 p2 q0 q1 q2 s0 s1 s2 hb8
        obtain ⟨p0, p1, p2, s0, s1, s2⟩ := HX.out _ C8.out
        go_wp2_with fail
        refine (HBC.out _ C8.out).mono ?_
        rintro e w9 ⟨rfl, hb9⟩
        have C9 := Lib.hid (since_trans C8.out hb9)
        clear p0 p1 p2 s0 s1 s2 hb9
        obtain ⟨p0, p1, p2, s0, s1, s2⟩ := HX.out _ C9.out
        go_wp2_with fail
        refine (HA.out _ C9.out).mono ?_
        rintro e w10 ⟨rfl, hb10⟩
        have C10 := Lib.hid (since_trans C9.out hb10)
        clear hb10
        go_wp2
        go_ret
        exact ⟨rfl, since_trans B10.out C10.out⟩
      · replace hbc : betterB r1 r2 = false := by simpa using hbc
        rw [hbc]
        clear hbc
        go_wp2_with fail
        refine (HS.out _ (Below.refl _ _)).mono ?_
        rintro e w8 ⟨rfl, hb8⟩
        have C8 := Lib.hid hb8
        clear p0 p1 p2 q0 q1 q2 s0 s1 s2 hb8
        obtain ⟨p0, p1, p2, s0, s1, s2⟩ := HX.out _ C8.out
        go_wp2_with fail
        refine (HA.out _ C8.out).mono ?_
        rintro e w10 ⟨rfl, hb10⟩
        have C10 := Lib.hid (since_trans C8.out hb10)
        clear hb10
        go_wp2
        go_ret
        exact ⟨rfl, since_trans B10.out C10.out⟩
    all_goals
      go_wp2_with fail
      refine (HS.out _ (Below.refl _ _)).mono ?_
      rintro e w8 ⟨rfl, hb8⟩
      have C8 := Lib.hid hb8
      clear p0 p1 p2 q0 q1 q2 s0 s1 s2 hb8
      obtain ⟨p0, p1, p2, s0, s1, s2⟩ := HX.out _ C8.out
      go_wp2_with fail
      refine (HA.out _ C8.out).mono ?_
      rintro e w10 ⟨rfl, hb10⟩
      have C10 := Lib.hid (since_trans C8.out hb10)
      clear hb10
      go_wp2
      go_ret
      exact ⟨rfl, since_trans B10.out C10.out⟩
  rcases hcases with ⟨x, y, z⟩ | ⟨x, y, z⟩ | ⟨x, y, z⟩
  · exact start _ _ _ x y z (.inl ⟨rfl, rfl, rfl⟩)
  · exact start _ _ _ x y z (.inr (.inl ⟨rfl, rfl, rfl⟩))
  · exact start _ _ _ x y z (.inr (.inr ⟨rfl, rfl, rfl⟩))
end Go.Proofs.YtmioaanbehacgaaDoor

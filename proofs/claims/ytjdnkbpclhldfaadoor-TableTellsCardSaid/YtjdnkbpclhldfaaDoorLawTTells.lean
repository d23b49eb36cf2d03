/- The walk of backstaylaw08.TableTells. -/
import Derived.Test.YtjdnkbpclhldfaaDoorTabN
namespace Go.Proofs.YtjdnkbpclhldfaaDoor
set_option linter.unusedSimpArgs false
set_option linter.unusedVariables false
open Go.RowKit

attribute [local go_sem ↓] Go.wp_at_zero Go.wp_at_succ
set_option maxRecDepth 100000 in
set_option maxHeartbeats 8000000 in
theorem tableTells_walk (a1 : Option Addr) (c1 : Nat) (l1 : List (List Int)) (V1 : List (Option Addr × Nat)) (n0 n3 : Int) (r : Rt) (A2 : Option Addr) (c2 : Nat) (w : World) (h1 : RowsIn w a1 c1 l1 V1) (h2' : InRow w A2 c2 r.path) (k0 : In64 n0) (k3 : In64 n3) (ht : Tab w) :
    Calls Tryd.prog 3 #[.int .i64 n0, .slice a1 l1.length c1, .agg #[.int .i64 r.kind, .int .i64 r.cost, .slice A2 r.path.length c2], .int .i64 n3] w fun e w' => e = .returned (.bool true) ∧ Below w.heap.size w w' := by
  have h2 : RtR w w.heap.size r A2 c2 := ⟨h2'.rd, h2'.le, h2'.max⟩
  have B0 := Lib.hid ((Below.refl w.heap.size w).alloc (Nat.le_refl _) (.cells #[.int .i64 r.kind, .int .i64 r.cost, .slice A2 r.path.length c2] 25))
  have HT0 := Lib.hid (ht.call B0.out)
  have H00 := Lib.hid (h1.call B0.out)
  have BX0 := Lib.hid (Box.new h2)
  have I0 := Lib.hid k0
  have hp9 := pickV_in (c := n0) (n := 9) (by omega)
  have hw1 : IntKind.i64.wrap (1 + pickV n0 9) = 1 + pickV n0 9 := IntWalk.i64_in _ (by omega)
  have hl1 : l1.length ≤ maxLen := Nat.le_trans h1.le h1.max
  unfold maxLen at hl1
  clear ht h1 h2 h2' k0 k3
  go_enter Tryd.func3, Tryd.ntmps3
  go_upto_region 1 with fail
  generalize (w.alloc (.cells #[.int .i64 r.kind, .int .i64 r.cost, .slice A2 r.path.length c2] 25)) = wa at *
  go_wp2_with fail
  refine (awake8 wa HT0.out).mono ?_
  rintro e w1 ⟨rfl, hb1⟩
  have B1 := Lib.hid hb1
  clear hb1
  go_wp2_with fail
  refine (pick8_any n0 9 _ I0.out (by omega) (by omega)).mono ?_
  rintro e w2 ⟨rfl, rfl⟩
  have H3 : Hid ((3 : Nat) ≠ 0 ∧ (3 : Nat) ≠ 9 ∧ (3 : Nat) ≠ 7 ∧ (3 : Nat) ≠ 4) := Lib.hid (by decide)
  have H4 : Hid ((4 : Nat) ≠ 0 ∧ (4 : Nat) ≠ 9 ∧ (4 : Nat) ≠ 7 ∧ (4 : Nat) ≠ 3) := Lib.hid (by decide)
  have H7 : Hid ((7 : Nat) ≠ 0 ∧ (7 : Nat) ≠ 9 ∧ (7 : Nat) ≠ 3 ∧ (7 : Nat) ≠ 4) := Lib.hid (by decide)
  have hbw : Below w1.heap.size w1 (w1.alloc (.cells #[.int .i64 n0, .int .i64 (1 + pickV n0 9)] 3)) := (Below.refl _ _).alloc (Nat.le_refl _) _
  have B3 := Lib.hid (since_trans (since_trans B0.out B1.out) hbw)
  have HT3 := Lib.hid ((HT0.out.call B1.out).call hbw)
  have H03 := Lib.hid ((H00.out.call B1.out).call hbw)
  have X3 := Lib.hid ((BX0.out.call B1.out).call hbw)
  have HR3 := Lib.hid (heap_alloc_new w1 (.cells #[.int .i64 n0, .int .i64 (1 + pickV n0 9)] 3))
  clear hbw B0 B1 HT0 H00 BX0
  go_wp2_with fail
  generalize (w1.alloc (.cells #[.int .i64 n0, .int .i64 (1 + pickV n0 9)] 3)) = w3 at *
  generalize w1.heap.size = bw at *
  clear hw1 hp9
  go_loopw [29] (fun sk wx => ∃ (k : Nat) (ow : Nat → Nat), k ≤ 2 ∧ sk = .int .i64 k ∧ TS w3 wx ow) (fun sk _ => 2 - (intOf sk).toNat)
  case atStart => exact ⟨0, fun _ => 9, by omega, rfl, TS.begin w3⟩
  case round =>
    obtain ⟨k, ow, hk, rfl, hS⟩ := hrel
    have SX := Lib.hid hS
    clear hS
    by_cases hk2 : k < 2
    · obtain ⟨n, hn⟩ : ∃ n, wr.cell? ⟨bw, k, none⟩ = some (.int .i64 n) := by
        have hh := (SX.out.base.block bw (lt_heap HR3.out)).trans HR3.out
        rcases (show k = 0 ∨ k = 1 by omega) with rfl | rfl
        · exact ⟨_, cell_of_row _ _ 0 _ _ _ hh⟩
        · exact ⟨_, cell_of_row _ _ 1 _ _ _ hh⟩
      have hk0 : (0 : Int) ≤ (k : Int) := by omega
      have hkk : (k : Int) < 2 := by omega
      go_wp2_with fail
      refine (newN_any n _ ow 3 H3.out.1 (SX.out.tab0 HT3.out)).mono ?_
      rintro e w4 ⟨p, L, A, c, ow1, rfl, hp, hL, hag, htab, hb⟩
      have HPM : Hid (p = none ∨ mostN n ≠ 0) := Lib.hid (by
        rcases hp with ⟨hg, -⟩ | ⟨-, e⟩
        · right; unfold mostN; rw [if_pos hg]; have := of_decide_eq_true hg; omega
        · exact .inl e)
      have S4 := (SX.out.retag hag).call hb
      obtain ⟨ow2, ho1, ho2⟩ := tag_new w4 ow1 4
      have S5 := Lib.hid (S4.retag ho1)
      have T5 := Lib.hid (htab.retag ho1)
      have HO2 := Lib.hid ho2
      have HPP := Lib.hid hp
      have HL := Lib.hid hL
      clear hp hag htab hb S4 ho1 ho2 hL hn
      go_wp2_with fail
      refine (rnewN_any n _).mono ?_
      rintro e w5 ⟨M, D, d, rfl, hM, hM0, hz, hown, hb5⟩
      have hb6 : Below w5.heap.size w5 (w5.alloc (.cells #[.int .i64 (mostN n), .slice D M.length d] 32)) := (Below.refl _ _).alloc (Nat.le_refl _) _
      have S6 := Lib.hid ((S5.out.call hb5).call hb6)
      have T6 := Lib.hid ((T5.out.call hb5).call hb6)
      have R6 := Lib.hid (RefT.new (n := mostN n) HO2.out hM0 hz hown hb5.size)
      have HLM : Hid (M.map (·.1) = L.map (·.1)) := Lib.hid (hM.trans HL.out.symm)
      have hLl : L.length ≤ 1 := by
        have h1 := congrArg List.length HL.out
        rw [List.length_map] at h1
        rw [h1]; unfold firstN; split <;> simp
      have HLl := Lib.hid hLl
      clear hM hM0 hz hown hb5 hb6 hLl S5 T5 HO2 HL
      have e0 : (w5.alloc (.cells #[.int .i64 (mostN n), .slice D M.length d] 32)) = (w5.alloc (.cells #[.int .i64 (mostN n), .slice D M.length d] 32)) := rfl
      clear e0
      go_upto_region 8 with fail
      generalize (w5.alloc (.cells #[.int .i64 (mostN n), .slice D M.length d] 32)) = w6 at *
      generalize w5.heap.size = bs at *
      generalize mostN n = m at *
      have hpp := HPP.out
      clear HPP
      rcases hpp with ⟨hg, bt, rfl⟩ | ⟨hg, rfl⟩
      · rw [hg]
        clear hg
        go_wp2_with fail
        go_loopw [16] (fun si wx => ∃ (i : Nat) (ow : Nat → Nat) (L : List RtZ) (A : Option Addr) (c : Nat) (M : List RtZ) (D : Option Addr) (d : Nat), i ≤ l1.length ∧ i ≤ 30 ∧ si = .int .i64 i ∧ TS w3 wx ow ∧ TabN wx ow 3 (some ⟨bt, 0, none⟩) m L A c ∧ RefT wx ow 4 bs m M D d ∧ M.map (·.1) = L.map (·.1) ∧ L.length ≤ i + 1) (fun si _ => 30 - (intOf si).toNat)
        case atStart => exact ⟨0, ow2, L, A, c, M, D, d, Nat.zero_le _, by omega, rfl, S6.out, T6.out, R6.out, HLM.out, HLl.out⟩
        case round =>
          obtain ⟨i, ow, L, A, c, M, D, d, hi, hi30, rfl, hS, hT, hR, hLM, hLi⟩ := hrel
          have SY := Lib.hid hS
          have TY := Lib.hid hT
          have RY := Lib.hid hR
          have HLM := Lib.hid hLM
          have hM31 : M.length ≤ 31 := by have := congrArg List.length hLM; simp at this; omega
          have hL31 : L.length ≤ 31 := by omega
          have HNIM : Hid (m = 0 → M = []) := Lib.hid (fun h => by have h1 := TabN.nil0 hT (by first | exact .inl rfl | exact HPM.out) h; rw [h1] at hLM; simpa using hLM)
          clear hS hT hR hLM
          by_cases hlt : i < l1.length ∧ (i : Int) < 30
          · obtain ⟨hlt, h30⟩ := hlt
            have RW := Lib.hid (H03.out.call SY.out.base)
            obtain ⟨z, hz⟩ : ∃ z, (l1.zip V1)[i]? = some z := ⟨_, List.getElem?_eq_getElem (by have := RW.out.len; rw [List.length_zip]; omega)⟩
            obtain ⟨b, o, rfl, hb, hc⟩ := RW.out.row.one (i := i) (x := rowV z) (by rw [List.getElem?_map, hz]; rfl)
            have IR := Lib.hid (RW.out.each z (List.mem_of_getElem? hz))
            have hi0 : (0 : Int) ≤ (i : Int) := by omega
            unfold rowV at hc
            have HCC := Lib.hid hc
            have HBB := Lib.hid hb
            clear hz hb
            go_wp2_with fail
            refine (route_any z.1 z.2.1 z.2.2 _ IR.out.rd IR.out.in64 IR.out.len).mono ?_
            rintro e w8 ⟨A3, c3, rfl, ho3, hb3⟩
            generalize routeR z.1 = r3 at *
            obtain ⟨owa, hx1, hx2⟩ := tag_new wr ow 0
            obtain ⟨owb, hy1, hy2⟩ := tag_new w8 owa 7
            have hbo : Below w8.heap.size w8 (w8.alloc (.cells #[.int .i64 r3.kind, .int .i64 r3.cost, .slice A3 r3.path.length c3] 25)) := (Below.refl _ _).alloc (Nat.le_refl _) _
            have S8 := Lib.hid ((((SY.out.retag hx1).call hb3).retag hy1).call hbo)
            have T8 := Lib.hid ((((TY.out.retag hx1).call hb3).retag hy1).call hbo)
            have R8 := Lib.hid ((((RY.out.retag hx1).call hb3).retag hy1).call hbo)
            have X8 := Lib.hid (RX.new (r := r3) (.inl ho3) hx2 hy1 hy2)
            have hc9 := ((since_trans hb3 hbo).cell (p := ⟨b, o + i, none⟩) HBB.out).trans HCC.out
            clear hc hbo hx1 hx2 hy1 hy2 ho3 hb3
            unfold rtV
            go_upto_region 14 with fail
            generalize (w8.alloc (.cells #[.int .i64 r3.kind, .int .i64 r3.cost, .slice A3 r3.path.length c3] 25)) = w9 at *
            generalize w8.heap.size = bo at *
            by_cases hz3 : z.1.length = 3
            · have hd3 : ((z.1.length : Int) == 3) = true := by rw [hz3]; rfl
              have XA := Lib.hid (X3.out.call S8.out.base)
              obtain ⟨a0, a1', a2⟩ := XA.out.at_
              have f0 := frozen_of_row _ _ 0 _ _ X8.out.box
              have f1 := frozen_of_row _ _ 1 _ _ X8.out.box
              have f2 := frozen_of_row _ _ 2 _ _ X8.out.box
              obtain ⟨b0, b1, b2⟩ := X8.out.at_
              obtain ⟨hX, hC⟩ := X8.out.store (x := r) (A' := A2) (c' := c2) XA.out.rt (fun hp g hg => .inr (S8.out.old g (by
                obtain ⟨b', o', e, hb', -⟩ := X3.out.rt.1.2 (by have := List.length_pos_iff.2 hp; omega)
                rw [e] at hg; simp [blk] at hg; omega)))
              have SZ := Lib.hid (S8.out.chg hC H7.out.2.1)
              have TZ := Lib.hid (T8.out.step (Agr.refl _ _) hC H7.out.2.2.1 H7.out.1)
              have RZ := Lib.hid (R8.out.chg hC H7.out.2.2.2 H7.out.1)
              have XZ := Lib.hid hX
              clear hX hC hz3
              go_upto_region 16 with fail
              generalize (((w9.setCell ⟨bo, 0, none⟩ (.int .i64 r.kind)).setCell ⟨bo, 1, none⟩ (.int .i64 r.cost)).setCell ⟨bo, 2, none⟩ (.slice A2 r.path.length c2)) = wz at *
              clear hc9 hd3 a0 a1' a2 f0 f1 f2 b0 b1 b2
              obtain ⟨b0, b1, b2⟩ := XZ.out.at_
              go_wp2_with fail
              refine (addN_any r A2 c2 TZ.out H3.out.1 (XZ.out.rtT H3.out.1 H3.out.2.1) (SZ.out.tab HT3.out H3.out.2.1) (by omega)).mono ?_
              rintro e w11 ⟨L', A', c', ow', rfl, hL', hag, htab, hch⟩
              have T11 := Lib.hid htab
              have S11 := Lib.hid (SZ.out.step9 hag hch H3.out.2.1)
              have R11 := Lib.hid (RZ.out.step hag hch H3.out.2.2.2 H3.out.1)
              have X11 := Lib.hid (XZ.out.step hag hch H3.out.2.2.1 H3.out.1 H3.out.2.1)
              have HL' := Lib.hid hL'
              clear htab hag hch hL' b0 b1 b2
              obtain ⟨b0, b1, b2⟩ := X11.out.at_
              go_wp2_with fail
              refine (radd8_any r A2 c2 R11.out H4.out.1 X11.out.rt HNIM.out (by omega)).mono ?_
              rintro e w12 ⟨M', D', d', ow'', rfl, hM', hag, htab, hch⟩
              rw [HLM.out] at hM' ⊢
              have T12 := Lib.hid (T11.out.step hag hch H4.out.2.2.2 H4.out.1)
              have S12 := Lib.hid (S11.out.step9 hag hch H4.out.2.1)
              have R12 := Lib.hid htab
              have X12 := Lib.hid (X11.out.step hag hch H4.out.2.2.1 H4.out.1 H4.out.2.1)
              have HLM' : Hid (M'.map (·.1) = L'.map (·.1)) := Lib.hid (hM'.trans HL'.out.symm)
              have hL'l : L'.length ≤ i + 1 + 1 := by
                have h1 := congrArg List.length HL'.out
                rw [List.length_map] at h1
                have h2 := addGL_len m (L.map (·.1)) r
                rw [List.length_map] at h2
                omega
              have hM'l : M'.length = L'.length := by have := congrArg List.length HLM'.out; simpa using this
              have HM'l := Lib.hid hM'l
              generalize addGN m (L.map (·.1)) r = kn at *
              generalize addGE m (L.map (·.1)) r = ke at *
              clear htab hag hch hM' b0 b1 b2 hM'l
              go_upto_region 18 with fail
              have HFE := Lib.hid (find_eq T12.out.ok r)
              have HC : Hid (∀ wy, Below w12.heap.size w12 wy → wy.cell? ⟨bs, 1, none⟩ = some (.slice D' L'.length d') ∧ wy.cell? ⟨bo, 0, none⟩ = some (.int .i64 r.kind) ∧ wy.cell? ⟨bo, 1, none⟩ = some (.int .i64 r.cost) ∧ wy.cell? ⟨bo, 2, none⟩ = some (.slice A2 r.path.length c2)) := Lib.hid (fun wy hb => ⟨by have h1 := (R12.out.call hb).all.2; rw [HM'l.out] at h1; exact h1, (X12.out.call hb).at_⟩)
              have CZ : Hid (∀ wy, Below w12.heap.size w12 wy → Calls Tryd.prog 15 #[.pointer (some ⟨bt, 0, none⟩)] wy fun e w' => e = .returned (.int .i64 (L'.length : Int)) ∧ Below w12.heap.size w12 w') := Lib.hid (fun wy hb => (sizeN_any (T12.out.call hb)).mono fun e w' ⟨h1, h2⟩ => ⟨h1, since_trans hb h2⟩)
              have CF : Hid (∀ wy, Below w12.heap.size w12 wy → Calls Tryd.prog 16 #[.pointer (some ⟨bt, 0, none⟩), .agg #[.int .i64 r.kind, .int .i64 r.cost, .slice A2 r.path.length c2]] wy fun e w' => e = .returned (.int .i64 (findT (L'.map (·.1)) r)) ∧ Below w12.heap.size w12 w') := Lib.hid (fun wy hb =>
                (findN_any r A2 c2 (T12.out.call hb) (X12.out.call hb).rt ((S12.out.call hb).tab0 HT3.out)).mono fun e w' ⟨h1, h2⟩ => ⟨by rw [h1, HFE.out], since_trans hb h2⟩)
              have CF2 : Hid (∀ wy, Below w12.heap.size w12 wy → Calls Tryd.prog 17 #[.pointer (some ⟨bs, 0, none⟩), .agg #[.int .i64 r.kind, .int .i64 r.cost, .slice A2 r.path.length c2]] wy fun e w' => e = .returned (.int .i64 (findT (L'.map (·.1)) r)) ∧ Below w12.heap.size w12 w') := Lib.hid (fun wy hb =>
                (rfind8_any r A2 c2 (R12.out.call hb) (X12.out.call hb).rt (by have := HM'l.out; omega)).mono fun e w' ⟨h1, h2⟩ => ⟨by rw [h1, HLM'.out], since_trans hb h2⟩)
              have CG : Hid (∀ wy, Below w12.heap.size w12 wy → Calls Tryd.prog 19 #[.pointer (some ⟨bt, 0, none⟩), .int .i64 (i : Int)] wy fun e w' => ∃ A9 c9, e = .returned (.agg #[.int .i64 (getT (L'.map (·.1)) i).kind, .int .i64 (getT (L'.map (·.1)) i).cost, .slice A9 (getT (L'.map (·.1)) i).path.length c9]) ∧ RtR w' w'.heap.size (getT (L'.map (·.1)) i) A9 c9 ∧ Below w12.heap.size w12 w') := Lib.hid (fun wy hb =>
                (getN_any (i : Int) (T12.out.call hb)).mono fun e w' ⟨A9, c9, h1, h2, h3⟩ => ⟨A9, c9, h1, h2.rt _ _, since_trans hb h3⟩)
              have CG2 : Hid (∀ wy, Below w12.heap.size w12 wy → Calls Tryd.prog 20 #[.pointer (some ⟨bs, 0, none⟩), .int .i64 (i : Int)] wy fun e w' => ∃ A8 c8, e = .returned (.agg #[.int .i64 (getT (L'.map (·.1)) i).kind, .int .i64 (getT (L'.map (·.1)) i).cost, .slice A8 (getT (L'.map (·.1)) i).path.length c8]) ∧ RtR w' w'.heap.size (getT (L'.map (·.1)) i) A8 c8 ∧ Below w12.heap.size w12 w' ∧ Below wy.heap.size wy w') := Lib.hid (fun wy hb =>
                (rget8_any (i : Int) (R12.out.call hb) (by have := HM'l.out; omega)).mono fun e w' ⟨A8, c8, h1, h2, h3⟩ => ⟨A8, c8, by rw [h1, HLM'.out]; rfl, by rw [HLM'.out] at h2; exact h2, since_trans hb h3, h3⟩)
              generalize findT (L'.map (·.1)) r = ff at *
              generalize getT (L'.map (·.1)) (i : Int) = gi at *
              have CS : Hid (∀ A9 c9 A8 c8 wy, RtR wy wy.heap.size gi A9 c9 → RtR wy wy.heap.size gi A8 c8 → Below w12.heap.size w12 wy → Calls Tryd.prog 18 #[.agg #[.int .i64 gi.kind, .int .i64 gi.cost, .slice A9 gi.path.length c9], .agg #[.int .i64 gi.kind, .int .i64 gi.cost, .slice A8 gi.path.length c8]] wy fun e w' => e = .returned (.bool true) ∧ Below w12.heap.size w12 w') := Lib.hid (fun A9 c9 A8 c8 wy h9 h8 hb =>
                (refSame_any gi gi A9 A8 c9 c8 wy h9 h8).mono fun e w' ⟨h1, h2⟩ => ⟨by rw [h1]; simp, since_trans hb h2⟩)
              have hq1 : (kn != kn) = false := by simp
              have hq2 : (ke != ke) = false := by simp
              have hq3 : ((L'.length : Int) != (L'.length : Int)) = false := by simp
              have hq4 : (ff != ff) = false := by simp
              have hBd : Below w12.heap.size w12 w12.drew := below_drew (Below.refl _ _)
              refine wp_region_held_drew (S := (fun wy => wy.cell? ⟨bs, 1, none⟩ = some (.slice D' L'.length d') ∧ wy.cell? ⟨bo, 0, none⟩ = some (.int .i64 r.kind) ∧ wy.cell? ⟨bo, 1, none⟩ = some (.int .i64 r.cost) ∧ wy.cell? ⟨bo, 2, none⟩ = some (.slice A2 r.path.length c2))) (by kernel_rfl) (HC.out _ hBd) (fun hHeld0 => ?_)
              refine take_list (i := 0) (v := ?_) rfl (by kernel_rfl) (by kernel_rfl) (by kernel_rfl) (fun _ _ _ h => h) (Or.inl ⟨by rfl, ?_⟩) (by assumption) ?_
              rotate_left
              · (intro w hSw; (try dsimp only at hSw); go_simp; try (with_reducible rfl))
              try simp only [Act.put, List.setIfInBounds_toArray, List.set_cons_zero, List.set_cons_succ]
              refine take_list (i := 1) (v := ?_) rfl (by kernel_rfl) (by kernel_rfl) (by kernel_rfl) (fun _ _ _ h => h) (Or.inl ⟨by rfl, ?_⟩) (by assumption) ?_
              rotate_left
              · (intro w hSw; (try dsimp only at hSw); go_simp; try (with_reducible rfl))
              try simp only [Act.put, List.setIfInBounds_toArray, List.set_cons_zero, List.set_cons_succ]
              refine take_list (i := 2) (v := ?_) rfl (by kernel_rfl) (by kernel_rfl) (by kernel_rfl) (fun _ _ _ h => h) (Or.inl ⟨by rfl, ?_⟩) (by assumption) ?_
              rotate_left
              · (intro w hSw; (try dsimp only at hSw); go_simp; try (with_reducible rfl))
              try simp only [Act.put, List.setIfInBounds_toArray, List.set_cons_zero, List.set_cons_succ]
              refine take_list (i := 3) (v := ?_) rfl (by kernel_rfl) (by kernel_rfl) (by kernel_rfl) (fun _ _ _ h => h) (Or.inl ⟨by rfl, ?_⟩) (by assumption) ?_
              rotate_left
              · (intro w hSw; (try dsimp only at hSw); go_simp; try (with_reducible rfl))
              try simp only [Act.put, List.setIfInBounds_toArray, List.set_cons_zero, List.set_cons_succ]
              refine take_list (i := 4) (v := ?_) rfl (by kernel_rfl) (by kernel_rfl) (by kernel_rfl) (fun _ _ _ h => h) (Or.inl ⟨by rfl, ?_⟩) (by assumption) ?_
              rotate_left
              · (intro w hSw; (try dsimp only at hSw); go_simp; try (with_reducible rfl))
              try simp only [Act.put, List.setIfInBounds_toArray, List.set_cons_zero, List.set_cons_succ]
              refine take_list (i := 5) (v := ?_) rfl (by kernel_rfl) (by kernel_rfl) (by kernel_rfl) (fun _ _ _ h => h) (Or.inl ⟨by rfl, ?_⟩) (by assumption) ?_
              rotate_left
              · (intro w hSw; (try dsimp only at hSw); go_simp; try (with_reducible rfl))
              try simp only [Act.put, List.setIfInBounds_toArray, List.set_cons_zero, List.set_cons_succ]
              refine take_list (i := 6) (v := ?_) rfl (by kernel_rfl) (by kernel_rfl) (by kernel_rfl) (fun _ _ _ h => h) (Or.inl ⟨by rfl, ?_⟩) (by assumption) ?_
              rotate_left
              · (intro w hSw; (try dsimp only at hSw); go_simp; try (with_reducible rfl))
              try simp only [Act.put, List.setIfInBounds_toArray, List.set_cons_zero, List.set_cons_succ]
              refine take_list (i := 7) (v := ?_) rfl (by kernel_rfl) (by kernel_rfl) (by kernel_rfl) (fun _ _ _ h => h) (Or.inl ⟨by rfl, ?_⟩) (by assumption) ?_
              rotate_left
              · (intro w hSw; (try dsimp only at hSw); go_simp; try (with_reducible rfl))
              try simp only [Act.put, List.setIfInBounds_toArray, List.set_cons_zero, List.set_cons_succ]
              refine take_list (i := 8) (v := ?_) rfl (by kernel_rfl) (by kernel_rfl) (by kernel_rfl) (fun _ _ _ h => h) (Or.inl ⟨by rfl, ?_⟩) (by assumption) ?_
              rotate_left
              · (intro w hSw; (try dsimp only at hSw); go_simp; try (with_reducible rfl))
              try simp only [Act.put, List.setIfInBounds_toArray, List.set_cons_zero, List.set_cons_succ]
              refine take_list (i := 9) (v := ?_) rfl (by kernel_rfl) (by kernel_rfl) (by kernel_rfl) (fun _ _ _ h => h) (Or.inl ⟨by rfl, ?_⟩) (by assumption) ?_
              rotate_left
              · (intro w hSw; (try dsimp only at hSw); go_simp; try (with_reducible rfl))
              try simp only [Act.put, List.setIfInBounds_toArray, List.set_cons_zero, List.set_cons_succ]
              refine take_list (i := 11) (v := ?_) rfl (by kernel_rfl) (by kernel_rfl) (by kernel_rfl) (fun _ _ _ h => h) (Or.inl ⟨by rfl, ?_⟩) (by assumption) ?_
              rotate_left
              · (intro w hSw; (try dsimp only at hSw); go_simp; try (with_reducible rfl))
              try simp only [Act.put, List.setIfInBounds_toArray, List.set_cons_zero, List.set_cons_succ]
              refine take_list (i := 12) (v := ?_) rfl (by kernel_rfl) (by kernel_rfl) (by kernel_rfl) (fun _ _ _ h => h) (Or.inl ⟨by rfl, ?_⟩) (by assumption) ?_
              rotate_left
              · (intro w hSw; (try dsimp only at hSw); go_simp; try (with_reducible rfl))
              try simp only [Act.put, List.setIfInBounds_toArray, List.set_cons_zero, List.set_cons_succ]
              refine take_list (i := 13) (v := ?_) rfl (by kernel_rfl) (by kernel_rfl) (by kernel_rfl) (fun _ _ _ h => h) (Or.inl ⟨by rfl, ?_⟩) (by assumption) ?_
              rotate_left
              · (intro w hSw; (try dsimp only at hSw); go_simp; try (with_reducible rfl))
              try simp only [Act.put, List.setIfInBounds_toArray, List.set_cons_zero, List.set_cons_succ]
              refine take_list (i := 14) (v := ?_) rfl (by kernel_rfl) (by kernel_rfl) (by kernel_rfl) (fun _ _ _ h => h) (Or.inl ⟨by rfl, ?_⟩) (by assumption) ?_
              rotate_left
              · (intro w hSw; (try dsimp only at hSw); go_simp; try (with_reducible rfl))
              try simp only [Act.put, List.setIfInBounds_toArray, List.set_cons_zero, List.set_cons_succ]
              refine take_list (i := 15) (v := ?_) rfl (by kernel_rfl) (by kernel_rfl) (by kernel_rfl) (fun _ _ _ h => h) (Or.inl ⟨by rfl, ?_⟩) (by assumption) ?_
              rotate_left
              · (intro w hSw; (try dsimp only at hSw); go_simp; try (with_reducible rfl))
              try simp only [Act.put, List.setIfInBounds_toArray, List.set_cons_zero, List.set_cons_succ]
              refine wpAnyH_ready (rs := [10]) (by kernel_rfl) (by simp) ?_
              refine cons_list rfl (fun K hK => ?_) AllReadyH.nil
              go_simp
              (go_at_call 15; refine (CZ.out _ hBd).mono ?_; rintro e w13 ⟨rfl, hB13⟩)
              refine hK.out _ _ (HC.out _ (by assumption)) (fun hHeld1 => ?_)
              clear hK K hHeld0
              try simp only [Act.put, List.setIfInBounds_toArray, List.set_cons_zero, List.set_cons_succ]
              refine take_list (i := 16) (v := ?_) rfl (by kernel_rfl) (by kernel_rfl) (by kernel_rfl) (fun _ _ _ h => h) (Or.inl ⟨by rfl, ?_⟩) (by assumption) ?_
              rotate_left
              · (intro w hSw; (try dsimp only at hSw); go_simp; try (with_reducible rfl))
              try simp only [Act.put, List.setIfInBounds_toArray, List.set_cons_zero, List.set_cons_succ]
              refine take_list (i := 17) (v := ?_) rfl (by kernel_rfl) (by kernel_rfl) (by kernel_rfl) (fun _ _ _ h => h) (Or.inl ⟨by rfl, ?_⟩) (by assumption) ?_
              rotate_left
              · (intro w hSw; (try dsimp only at hSw); go_simp; try (with_reducible rfl))
              try simp only [Act.put, List.setIfInBounds_toArray, List.set_cons_zero, List.set_cons_succ]
              refine take_list (i := 18) (v := ?_) rfl (by kernel_rfl) (by kernel_rfl) (by kernel_rfl) (fun _ _ _ h => h) (Or.inl ⟨by rfl, ?_⟩) (by assumption) ?_
              rotate_left
              · (intro w hSw; (try dsimp only at hSw); go_simp; try (with_reducible rfl))
              try simp only [Act.put, List.setIfInBounds_toArray, List.set_cons_zero, List.set_cons_succ]
              refine take_list (i := 19) (v := ?_) rfl (by kernel_rfl) (by kernel_rfl) (by kernel_rfl) (fun _ _ _ h => h) (Or.inl ⟨by rfl, ?_⟩) (by assumption) ?_
              rotate_left
              · (intro w hSw; (try dsimp only at hSw); go_simp; try (with_reducible rfl))
              try simp only [Act.put, List.setIfInBounds_toArray, List.set_cons_zero, List.set_cons_succ]
              refine take_list (i := 20) (v := ?_) rfl (by kernel_rfl) (by kernel_rfl) (by kernel_rfl) (fun _ _ _ h => h) (Or.inl ⟨by rfl, ?_⟩) (by assumption) ?_
              rotate_left
              · (intro w hSw; (try dsimp only at hSw); go_simp; try (with_reducible rfl))
              try simp only [Act.put, List.setIfInBounds_toArray, List.set_cons_zero, List.set_cons_succ]
              refine take_list (i := 22) (v := ?_) rfl (by kernel_rfl) (by kernel_rfl) (by kernel_rfl) (fun _ _ _ h => h) (Or.inl ⟨by rfl, ?_⟩) (by assumption) ?_
              rotate_left
              · (intro w hSw; (try dsimp only at hSw); go_simp; try (with_reducible rfl))
              try simp only [Act.put, List.setIfInBounds_toArray, List.set_cons_zero, List.set_cons_succ]
              refine take_list (i := 23) (v := ?_) rfl (by kernel_rfl) (by kernel_rfl) (by kernel_rfl) (fun _ _ _ h => h) (Or.inl ⟨by rfl, ?_⟩) (by assumption) ?_
              rotate_left
              · (intro w hSw; (try dsimp only at hSw); go_simp; try (with_reducible rfl))
              try simp only [Act.put, List.setIfInBounds_toArray, List.set_cons_zero, List.set_cons_succ]
              refine wpAnyH_ready (rs := [21]) (by kernel_rfl) (by simp) ?_
              refine cons_list rfl (fun K hK => ?_) AllReadyH.nil
              go_simp
              (go_at_call 16; refine (CF.out _ hB13).mono ?_; rintro e w14 ⟨rfl, hB14⟩)
              refine hK.out _ _ (HC.out _ (by assumption)) (fun hHeld2 => ?_)
              clear hK K hHeld1
              try simp only [Act.put, List.setIfInBounds_toArray, List.set_cons_zero, List.set_cons_succ]
              refine wpAnyH_ready (rs := [24]) (by kernel_rfl) (by simp) ?_
              refine cons_list rfl (fun K hK => ?_) AllReadyH.nil
              go_simp
              (go_at_call 17; refine (CF2.out _ hB14).mono ?_; rintro e w15 ⟨rfl, hB15⟩)
              refine hK.out _ _ (HC.out _ (by assumption)) (fun hHeld3 => ?_)
              clear hK K hHeld2
              try simp only [Act.put, List.setIfInBounds_toArray, List.set_cons_zero, List.set_cons_succ]
              refine take_list (i := 25) (v := ?_) rfl (by kernel_rfl) (by kernel_rfl) (by kernel_rfl) (fun _ _ _ h => h) (Or.inl ⟨by rfl, ?_⟩) (by assumption) ?_
              rotate_left
              · (intro w hSw; (try dsimp only at hSw); go_simp; try (with_reducible rfl))
              try simp only [Act.put, List.setIfInBounds_toArray, List.set_cons_zero, List.set_cons_succ]
              refine take_list (i := 26) (v := ?_) rfl (by kernel_rfl) (by kernel_rfl) (by kernel_rfl) (fun _ _ _ h => h) (Or.inl ⟨by rfl, ?_⟩) (by assumption) ?_
              rotate_left
              · (intro w hSw; (try dsimp only at hSw); go_simp; try (with_reducible rfl))
              try simp only [Act.put, List.setIfInBounds_toArray, List.set_cons_zero, List.set_cons_succ]
              refine take_list (i := 27) (v := ?_) rfl (by kernel_rfl) (by kernel_rfl) (by kernel_rfl) (fun _ _ _ h => h) (Or.inl ⟨by rfl, ?_⟩) (by assumption) ?_
              rotate_left
              · (intro w hSw; (try dsimp only at hSw); go_simp; try (with_reducible rfl))
              try simp only [Act.put, List.setIfInBounds_toArray, List.set_cons_zero, List.set_cons_succ]
              refine take_list (i := 28) (v := ?_) rfl (by kernel_rfl) (by kernel_rfl) (by kernel_rfl) (fun _ _ _ h => h) (Or.inl ⟨by rfl, ?_⟩) (by assumption) ?_
              rotate_left
              · (intro w hSw; (try dsimp only at hSw); go_simp; try (with_reducible rfl))
              try simp only [Act.put, List.setIfInBounds_toArray, List.set_cons_zero, List.set_cons_succ]
              refine take_list (i := 29) (v := ?_) rfl (by kernel_rfl) (by kernel_rfl) (by kernel_rfl) (fun _ _ _ h => h) (Or.inl ⟨by rfl, ?_⟩) (by assumption) ?_
              rotate_left
              · (intro w hSw; (try dsimp only at hSw); go_simp; try (with_reducible rfl))
              try simp only [Act.put, List.setIfInBounds_toArray, List.set_cons_zero, List.set_cons_succ]
              refine take_list (i := 31) (v := ?_) rfl (by kernel_rfl) (by kernel_rfl) (by kernel_rfl) (fun _ _ _ h => h) (Or.inl ⟨by rfl, ?_⟩) (by assumption) ?_
              rotate_left
              · (intro w hSw; (try dsimp only at hSw); go_simp; try (with_reducible rfl))
              try simp only [Act.put, List.setIfInBounds_toArray, List.set_cons_zero, List.set_cons_succ]
              refine take_list (i := 32) (v := ?_) rfl (by kernel_rfl) (by kernel_rfl) (by kernel_rfl) (fun _ _ _ h => h) (Or.inl ⟨by rfl, ?_⟩) (by assumption) ?_
              rotate_left
              · (intro w hSw; (try dsimp only at hSw); go_simp; try (with_reducible rfl))
              try simp only [Act.put, List.setIfInBounds_toArray, List.set_cons_zero, List.set_cons_succ]
              refine wpAnyH_ready (rs := [30]) (by kernel_rfl) (by simp) ?_
              refine cons_list rfl (fun K hK => ?_) AllReadyH.nil
              go_simp
              (go_at_call 19; refine (CG.out _ hB15).mono ?_; rintro e w16 ⟨A9, c9, rfl, hr9, hB16⟩)
              refine hK.out _ _ (HC.out _ (by assumption)) (fun hHeld4 => ?_)
              clear hK K hHeld3
              try simp only [Act.put, List.setIfInBounds_toArray, List.set_cons_zero, List.set_cons_succ]
              refine wpAnyH_ready (rs := [33]) (by kernel_rfl) (by simp) ?_
              refine cons_list rfl (fun K hK => ?_) AllReadyH.nil
              go_simp
              (go_at_call 20; refine (CG2.out _ hB16).mono ?_; rintro e w17 ⟨A8, c8, rfl, hr8, hB17, hBB⟩; have hr9' := hr9.call hBB)
              refine hK.out _ _ (HC.out _ (by assumption)) (fun hHeld5 => ?_)
              clear hK K hHeld4
              try simp only [Act.put, List.setIfInBounds_toArray, List.set_cons_zero, List.set_cons_succ]
              refine wpAnyH_ready (rs := [34]) (by kernel_rfl) (by simp) ?_
              refine cons_list rfl (fun K hK => ?_) AllReadyH.nil
              go_simp
              (go_at_call 18; refine (CS.out A9 c9 A8 c8 _ hr9' hr8 hB17).mono ?_; rintro e w18 ⟨rfl, hB18⟩)
              refine hK.out _ _ (HC.out _ (by assumption)) (fun hHeld6 => ?_)
              clear hK K hHeld5
              try simp only [Act.put, List.setIfInBounds_toArray, List.set_cons_zero, List.set_cons_succ]
              refine take_list (i := 35) (v := ?_) rfl (by kernel_rfl) (by kernel_rfl) (by kernel_rfl) (fun _ _ _ h => h) (Or.inl ⟨by rfl, ?_⟩) (by assumption) ?_
              rotate_left
              · (intro w hSw; (try dsimp only at hSw); go_simp; try (with_reducible rfl))
              try simp only [Act.put, List.setIfInBounds_toArray, List.set_cons_zero, List.set_cons_succ]
              refine take_list (i := 36) (v := ?_) rfl (by kernel_rfl) (by kernel_rfl) (by kernel_rfl) (fun _ _ _ h => h) (Or.inl ⟨by rfl, ?_⟩) (by assumption) ?_
              rotate_left
              · (intro w hSw; (try dsimp only at hSw); go_simp; try (with_reducible rfl))
              try simp only [Act.put, List.setIfInBounds_toArray, List.set_cons_zero, List.set_cons_succ]
              refine wpAnyH_done (by kernel_rfl) ?_ _
              clear hHeld6
              have S18 := Lib.hid (S12.out.call hB18)
              have T18 := Lib.hid (T12.out.call hB18)
              have R18 := Lib.hid (R12.out.call hB18)
              clear hBd hB13 hB14 hB15 hB16 hB17 hB18 hBB hr9 hr8 hr9' hq1 hq2 hq3 hq4
              go_wp2
              go_roundw
              case rel => exact ⟨i + 1, ow'', L', A', c', M', D', d', by omega, by omega, by go_num, S18.out, T18.out, R18.out, HLM'.out, by omega⟩
              case measure => simp [intOf]; omega
            · have hd3 : ((z.1.length : Int) == 3) = false := by rw [beq_eq_false_iff_ne]; omega
              clear hz3
              go_upto_region 16 with fail
              clear hc9 hd3
              obtain ⟨b0, b1, b2⟩ := X8.out.at_
              go_wp2_with fail
              refine (addN_any r3 A3 c3 T8.out H3.out.1 (X8.out.rtT H3.out.1 H3.out.2.1) (S8.out.tab HT3.out H3.out.2.1) (by omega)).mono ?_
              rintro e w11 ⟨L', A', c', ow', rfl, hL', hag, htab, hch⟩
              have T11 := Lib.hid htab
              have S11 := Lib.hid (S8.out.step9 hag hch H3.out.2.1)
              have R11 := Lib.hid (R8.out.step hag hch H3.out.2.2.2 H3.out.1)
              have X11 := Lib.hid (X8.out.step hag hch H3.out.2.2.1 H3.out.1 H3.out.2.1)
              have HL' := Lib.hid hL'
              clear htab hag hch hL' b0 b1 b2
              obtain ⟨b0, b1, b2⟩ := X11.out.at_
              go_wp2_with fail
              refine (radd8_any r3 A3 c3 R11.out H4.out.1 X11.out.rt HNIM.out (by omega)).mono ?_
              rintro e w12 ⟨M', D', d', ow'', rfl, hM', hag, htab, hch⟩
              rw [HLM.out] at hM' ⊢
              have T12 := Lib.hid (T11.out.step hag hch H4.out.2.2.2 H4.out.1)
              have S12 := Lib.hid (S11.out.step9 hag hch H4.out.2.1)
              have R12 := Lib.hid htab
              have X12 := Lib.hid (X11.out.step hag hch H4.out.2.2.1 H4.out.1 H4.out.2.1)
              have HLM' : Hid (M'.map (·.1) = L'.map (·.1)) := Lib.hid (hM'.trans HL'.out.symm)
              have hL'l : L'.length ≤ i + 1 + 1 := by
                have h1 := congrArg List.length HL'.out
                rw [List.length_map] at h1
                have h2 := addGL_len m (L.map (·.1)) r3
                rw [List.length_map] at h2
                omega
              have hM'l : M'.length = L'.length := by have := congrArg List.length HLM'.out; simpa using this
              have HM'l := Lib.hid hM'l
              generalize addGN m (L.map (·.1)) r3 = kn at *
              generalize addGE m (L.map (·.1)) r3 = ke at *
              clear htab hag hch hM' b0 b1 b2 hM'l
              go_upto_region 18 with fail
              have HFE := Lib.hid (find_eq T12.out.ok r3)
              have HC : Hid (∀ wy, Below w12.heap.size w12 wy → wy.cell? ⟨bs, 1, none⟩ = some (.slice D' L'.length d') ∧ wy.cell? ⟨bo, 0, none⟩ = some (.int .i64 r3.kind) ∧ wy.cell? ⟨bo, 1, none⟩ = some (.int .i64 r3.cost) ∧ wy.cell? ⟨bo, 2, none⟩ = some (.slice A3 r3.path.length c3)) := Lib.hid (fun wy hb => ⟨by have h1 := (R12.out.call hb).all.2; rw [HM'l.out] at h1; exact h1, (X12.out.call hb).at_⟩)
              have CZ : Hid (∀ wy, Below w12.heap.size w12 wy → Calls Tryd.prog 15 #[.pointer (some ⟨bt, 0, none⟩)] wy fun e w' => e = .returned (.int .i64 (L'.length : Int)) ∧ Below w12.heap.size w12 w') := Lib.hid (fun wy hb => (sizeN_any (T12.out.call hb)).mono fun e w' ⟨h1, h2⟩ => ⟨h1, since_trans hb h2⟩)
              have CF : Hid (∀ wy, Below w12.heap.size w12 wy → Calls Tryd.prog 16 #[.pointer (some ⟨bt, 0, none⟩), .agg #[.int .i64 r3.kind, .int .i64 r3.cost, .slice A3 r3.path.length c3]] wy fun e w' => e = .returned (.int .i64 (findT (L'.map (·.1)) r3)) ∧ Below w12.heap.size w12 w') := Lib.hid (fun wy hb =>
                (findN_any r3 A3 c3 (T12.out.call hb) (X12.out.call hb).rt ((S12.out.call hb).tab0 HT3.out)).mono fun e w' ⟨h1, h2⟩ => ⟨by rw [h1, HFE.out], since_trans hb h2⟩)
              have CF2 : Hid (∀ wy, Below w12.heap.size w12 wy → Calls Tryd.prog 17 #[.pointer (some ⟨bs, 0, none⟩), .agg #[.int .i64 r3.kind, .int .i64 r3.cost, .slice A3 r3.path.length c3]] wy fun e w' => e = .returned (.int .i64 (findT (L'.map (·.1)) r3)) ∧ Below w12.heap.size w12 w') := Lib.hid (fun wy hb =>
                (rfind8_any r3 A3 c3 (R12.out.call hb) (X12.out.call hb).rt (by have := HM'l.out; omega)).mono fun e w' ⟨h1, h2⟩ => ⟨by rw [h1, HLM'.out], since_trans hb h2⟩)
              have CG : Hid (∀ wy, Below w12.heap.size w12 wy → Calls Tryd.prog 19 #[.pointer (some ⟨bt, 0, none⟩), .int .i64 (i : Int)] wy fun e w' => ∃ A9 c9, e = .returned (.agg #[.int .i64 (getT (L'.map (·.1)) i).kind, .int .i64 (getT (L'.map (·.1)) i).cost, .slice A9 (getT (L'.map (·.1)) i).path.length c9]) ∧ RtR w' w'.heap.size (getT (L'.map (·.1)) i) A9 c9 ∧ Below w12.heap.size w12 w') := Lib.hid (fun wy hb =>
                (getN_any (i : Int) (T12.out.call hb)).mono fun e w' ⟨A9, c9, h1, h2, h3⟩ => ⟨A9, c9, h1, h2.rt _ _, since_trans hb h3⟩)
              have CG2 : Hid (∀ wy, Below w12.heap.size w12 wy → Calls Tryd.prog 20 #[.pointer (some ⟨bs, 0, none⟩), .int .i64 (i : Int)] wy fun e w' => ∃ A8 c8, e = .returned (.agg #[.int .i64 (getT (L'.map (·.1)) i).kind, .int .i64 (getT (L'.map (·.1)) i).cost, .slice A8 (getT (L'.map (·.1)) i).path.length c8]) ∧ RtR w' w'.heap.size (getT (L'.map (·.1)) i) A8 c8 ∧ Below w12.heap.size w12 w' ∧ Below wy.heap.size wy w') := Lib.hid (fun wy hb =>
                (rget8_any (i : Int) (R12.out.call hb) (by have := HM'l.out; omega)).mono fun e w' ⟨A8, c8, h1, h2, h3⟩ => ⟨A8, c8, by rw [h1, HLM'.out]; rfl, by rw [HLM'.out] at h2; exact h2, since_trans hb h3, h3⟩)
              generalize findT (L'.map (·.1)) r3 = ff at *
              generalize getT (L'.map (·.1)) (i : Int) = gi at *
              have CS : Hid (∀ A9 c9 A8 c8 wy, RtR wy wy.heap.size gi A9 c9 → RtR wy wy.heap.size gi A8 c8 → Below w12.heap.size w12 wy → Calls Tryd.prog 18 #[.agg #[.int .i64 gi.kind, .int .i64 gi.cost, .slice A9 gi.path.length c9], .agg #[.int .i64 gi.kind, .int .i64 gi.cost, .slice A8 gi.path.length c8]] wy fun e w' => e = .returned (.bool true) ∧ Below w12.heap.size w12 w') := Lib.hid (fun A9 c9 A8 c8 wy h9 h8 hb =>
                (refSame_any gi gi A9 A8 c9 c8 wy h9 h8).mono fun e w' ⟨h1, h2⟩ => ⟨by rw [h1]; simp, since_trans hb h2⟩)
              have hq1 : (kn != kn) = false := by simp
              have hq2 : (ke != ke) = false := by simp
              have hq3 : ((L'.length : Int) != (L'.length : Int)) = false := by simp
              have hq4 : (ff != ff) = false := by simp
              have hBd : Below w12.heap.size w12 w12.drew := below_drew (Below.refl _ _)
              refine wp_region_held_drew (S := (fun wy => wy.cell? ⟨bs, 1, none⟩ = some (.slice D' L'.length d') ∧ wy.cell? ⟨bo, 0, none⟩ = some (.int .i64 r3.kind) ∧ wy.cell? ⟨bo, 1, none⟩ = some (.int .i64 r3.cost) ∧ wy.cell? ⟨bo, 2, none⟩ = some (.slice A3 r3.path.length c3))) (by kernel_rfl) (HC.out _ hBd) (fun hHeld0 => ?_)
              refine take_list (i := 0) (v := ?_) rfl (by kernel_rfl) (by kernel_rfl) (by kernel_rfl) (fun _ _ _ h => h) (Or.inl ⟨by rfl, ?_⟩) (by assumption) ?_
              rotate_left
              · (intro w hSw; (try dsimp only at hSw); go_simp; try (with_reducible rfl))
              try simp only [Act.put, List.setIfInBounds_toArray, List.set_cons_zero, List.set_cons_succ]
              refine take_list (i := 1) (v := ?_) rfl (by kernel_rfl) (by kernel_rfl) (by kernel_rfl) (fun _ _ _ h => h) (Or.inl ⟨by rfl, ?_⟩) (by assumption) ?_
              rotate_left
              · (intro w hSw; (try dsimp only at hSw); go_simp; try (with_reducible rfl))
              try simp only [Act.put, List.setIfInBounds_toArray, List.set_cons_zero, List.set_cons_succ]
              refine take_list (i := 2) (v := ?_) rfl (by kernel_rfl) (by kernel_rfl) (by kernel_rfl) (fun _ _ _ h => h) (Or.inl ⟨by rfl, ?_⟩) (by assumption) ?_
              rotate_left
              · (intro w hSw; (try dsimp only at hSw); go_simp; try (with_reducible rfl))
              try simp only [Act.put, List.setIfInBounds_toArray, List.set_cons_zero, List.set_cons_succ]
              refine take_list (i := 3) (v := ?_) rfl (by kernel_rfl) (by kernel_rfl) (by kernel_rfl) (fun _ _ _ h => h) (Or.inl ⟨by rfl, ?_⟩) (by assumption) ?_
              rotate_left
              · (intro w hSw; (try dsimp only at hSw); go_simp; try (with_reducible rfl))
              try simp only [Act.put, List.setIfInBounds_toArray, List.set_cons_zero, List.set_cons_succ]
              refine take_list (i := 4) (v := ?_) rfl (by kernel_rfl) (by kernel_rfl) (by kernel_rfl) (fun _ _ _ h => h) (Or.inl ⟨by rfl, ?_⟩) (by assumption) ?_
              rotate_left
              · (intro w hSw; (try dsimp only at hSw); go_simp; try (with_reducible rfl))
              try simp only [Act.put, List.setIfInBounds_toArray, List.set_cons_zero, List.set_cons_succ]
              refine take_list (i := 5) (v := ?_) rfl (by kernel_rfl) (by kernel_rfl) (by kernel_rfl) (fun _ _ _ h => h) (Or.inl ⟨by rfl, ?_⟩) (by assumption) ?_
              rotate_left
              · (intro w hSw; (try dsimp only at hSw); go_simp; try (with_reducible rfl))
              try simp only [Act.put, List.setIfInBounds_toArray, List.set_cons_zero, List.set_cons_succ]
              refine take_list (i := 6) (v := ?_) rfl (by kernel_rfl) (by kernel_rfl) (by kernel_rfl) (fun _ _ _ h => h) (Or.inl ⟨by rfl, ?_⟩) (by assumption) ?_
              rotate_left
              · (intro w hSw; (try dsimp only at hSw); go_simp; try (with_reducible rfl))
              try simp only [Act.put, List.setIfInBounds_toArray, List.set_cons_zero, List.set_cons_succ]
              refine take_list (i := 7) (v := ?_) rfl (by kernel_rfl) (by kernel_rfl) (by kernel_rfl) (fun _ _ _ h => h) (Or.inl ⟨by rfl, ?_⟩) (by assumption) ?_
              rotate_left
              · (intro w hSw; (try dsimp only at hSw); go_simp; try (with_reducible rfl))
              try simp only [Act.put, List.setIfInBounds_toArray, List.set_cons_zero, List.set_cons_succ]
              refine take_list (i := 8) (v := ?_) rfl (by kernel_rfl) (by kernel_rfl) (by kernel_rfl) (fun _ _ _ h => h) (Or.inl ⟨by rfl, ?_⟩) (by assumption) ?_
              rotate_left
              · (intro w hSw; (try dsimp only at hSw); go_simp; try (with_reducible rfl))
              try simp only [Act.put, List.setIfInBounds_toArray, List.set_cons_zero, List.set_cons_succ]
              refine take_list (i := 9) (v := ?_) rfl (by kernel_rfl) (by kernel_rfl) (by kernel_rfl) (fun _ _ _ h => h) (Or.inl ⟨by rfl, ?_⟩) (by assumption) ?_
              rotate_left
              · (intro w hSw; (try dsimp only at hSw); go_simp; try (with_reducible rfl))
              try simp only [Act.put, List.setIfInBounds_toArray, List.set_cons_zero, List.set_cons_succ]
              refine take_list (i := 11) (v := ?_) rfl (by kernel_rfl) (by kernel_rfl) (by kernel_rfl) (fun _ _ _ h => h) (Or.inl ⟨by rfl, ?_⟩) (by assumption) ?_
              rotate_left
              · (intro w hSw; (try dsimp only at hSw); go_simp; try (with_reducible rfl))
              try simp only [Act.put, List.setIfInBounds_toArray, List.set_cons_zero, List.set_cons_succ]
              refine take_list (i := 12) (v := ?_) rfl (by kernel_rfl) (by kernel_rfl) (by kernel_rfl) (fun _ _ _ h => h) (Or.inl ⟨by rfl, ?_⟩) (by assumption) ?_
              rotate_left
              · (intro w hSw; (try dsimp only at hSw); go_simp; try (with_reducible rfl))
              try simp only [Act.put, List.setIfInBounds_toArray, List.set_cons_zero, List.set_cons_succ]
              refine take_list (i := 13) (v := ?_) rfl (by kernel_rfl) (by kernel_rfl) (by kernel_rfl) (fun _ _ _ h => h) (Or.inl ⟨by rfl, ?_⟩) (by assumption) ?_
              rotate_left
              · (intro w hSw; (try dsimp only at hSw); go_simp; try (with_reducible rfl))
              try simp only [Act.put, List.setIfInBounds_toArray, List.set_cons_zero, List.set_cons_succ]
              refine take_list (i := 14) (v := ?_) rfl (by kernel_rfl) (by kernel_rfl) (by kernel_rfl) (fun _ _ _ h => h) (Or.inl ⟨by rfl, ?_⟩) (by assumption) ?_
              rotate_left
              · (intro w hSw; (try dsimp only at hSw); go_simp; try (with_reducible rfl))
              try simp only [Act.put, List.setIfInBounds_toArray, List.set_cons_zero, List.set_cons_succ]
              refine take_list (i := 15) (v := ?_) rfl (by kernel_rfl) (by kernel_rfl) (by kernel_rfl) (fun _ _ _ h => h) (Or.inl ⟨by rfl, ?_⟩) (by assumption) ?_
              rotate_left
              · (intro w hSw; (try dsimp only at hSw); go_simp; try (with_reducible rfl))
              try simp only [Act.put, List.setIfInBounds_toArray, List.set_cons_zero, List.set_cons_succ]
              refine wpAnyH_ready (rs := [10]) (by kernel_rfl) (by simp) ?_
              refine cons_list rfl (fun K hK => ?_) AllReadyH.nil
              go_simp
              (go_at_call 15; refine (CZ.out _ hBd).mono ?_; rintro e w13 ⟨rfl, hB13⟩)
              refine hK.out _ _ (HC.out _ (by assumption)) (fun hHeld1 => ?_)
              clear hK K hHeld0
              try simp only [Act.put, List.setIfInBounds_toArray, List.set_cons_zero, List.set_cons_succ]
              refine take_list (i := 16) (v := ?_) rfl (by kernel_rfl) (by kernel_rfl) (by kernel_rfl) (fun _ _ _ h => h) (Or.inl ⟨by rfl, ?_⟩) (by assumption) ?_
              rotate_left
              · (intro w hSw; (try dsimp only at hSw); go_simp; try (with_reducible rfl))
              try simp only [Act.put, List.setIfInBounds_toArray, List.set_cons_zero, List.set_cons_succ]
              refine take_list (i := 17) (v := ?_) rfl (by kernel_rfl) (by kernel_rfl) (by kernel_rfl) (fun _ _ _ h => h) (Or.inl ⟨by rfl, ?_⟩) (by assumption) ?_
              rotate_left
              · (intro w hSw; (try dsimp only at hSw); go_simp; try (with_reducible rfl))
              try simp only [Act.put, List.setIfInBounds_toArray, List.set_cons_zero, List.set_cons_succ]
              refine take_list (i := 18) (v := ?_) rfl (by kernel_rfl) (by kernel_rfl) (by kernel_rfl) (fun _ _ _ h => h) (Or.inl ⟨by rfl, ?_⟩) (by assumption) ?_
              rotate_left
              · (intro w hSw; (try dsimp only at hSw); go_simp; try (with_reducible rfl))
              try simp only [Act.put, List.setIfInBounds_toArray, List.set_cons_zero, List.set_cons_succ]
              refine take_list (i := 19) (v := ?_) rfl (by kernel_rfl) (by kernel_rfl) (by kernel_rfl) (fun _ _ _ h => h) (Or.inl ⟨by rfl, ?_⟩) (by assumption) ?_
              rotate_left
              · (intro w hSw; (try dsimp only at hSw); go_simp; try (with_reducible rfl))
              try simp only [Act.put, List.setIfInBounds_toArray, List.set_cons_zero, List.set_cons_succ]
              refine take_list (i := 20) (v := ?_) rfl (by kernel_rfl) (by kernel_rfl) (by kernel_rfl) (fun _ _ _ h => h) (Or.inl ⟨by rfl, ?_⟩) (by assumption) ?_
              rotate_left
              · (intro w hSw; (try dsimp only at hSw); go_simp; try (with_reducible rfl))
              try simp only [Act.put, List.setIfInBounds_toArray, List.set_cons_zero, List.set_cons_succ]
              refine take_list (i := 22) (v := ?_) rfl (by kernel_rfl) (by kernel_rfl) (by kernel_rfl) (fun _ _ _ h => h) (Or.inl ⟨by rfl, ?_⟩) (by assumption) ?_
              rotate_left
              · (intro w hSw; (try dsimp only at hSw); go_simp; try (with_reducible rfl))
              try simp only [Act.put, List.setIfInBounds_toArray, List.set_cons_zero, List.set_cons_succ]
              refine take_list (i := 23) (v := ?_) rfl (by kernel_rfl) (by kernel_rfl) (by kernel_rfl) (fun _ _ _ h => h) (Or.inl ⟨by rfl, ?_⟩) (by assumption) ?_
              rotate_left
              · (intro w hSw; (try dsimp only at hSw); go_simp; try (with_reducible rfl))
              try simp only [Act.put, List.setIfInBounds_toArray, List.set_cons_zero, List.set_cons_succ]
              refine wpAnyH_ready (rs := [21]) (by kernel_rfl) (by simp) ?_
              refine cons_list rfl (fun K hK => ?_) AllReadyH.nil
              go_simp
              (go_at_call 16; refine (CF.out _ hB13).mono ?_; rintro e w14 ⟨rfl, hB14⟩)
              refine hK.out _ _ (HC.out _ (by assumption)) (fun hHeld2 => ?_)
              clear hK K hHeld1
              try simp only [Act.put, List.setIfInBounds_toArray, List.set_cons_zero, List.set_cons_succ]
              refine wpAnyH_ready (rs := [24]) (by kernel_rfl) (by simp) ?_
              refine cons_list rfl (fun K hK => ?_) AllReadyH.nil
              go_simp
              (go_at_call 17; refine (CF2.out _ hB14).mono ?_; rintro e w15 ⟨rfl, hB15⟩)
              refine hK.out _ _ (HC.out _ (by assumption)) (fun hHeld3 => ?_)
              clear hK K hHeld2
              try simp only [Act.put, List.setIfInBounds_toArray, List.set_cons_zero, List.set_cons_succ]
              refine take_list (i := 25) (v := ?_) rfl (by kernel_rfl) (by kernel_rfl) (by kernel_rfl) (fun _ _ _ h => h) (Or.inl ⟨by rfl, ?_⟩) (by assumption) ?_
              rotate_left
              · (intro w hSw; (try dsimp only at hSw); go_simp; try (with_reducible rfl))
              try simp only [Act.put, List.setIfInBounds_toArray, List.set_cons_zero, List.set_cons_succ]
              refine take_list (i := 26) (v := ?_) rfl (by kernel_rfl) (by kernel_rfl) (by kernel_rfl) (fun _ _ _ h => h) (Or.inl ⟨by rfl, ?_⟩) (by assumption) ?_
              rotate_left
              · (intro w hSw; (try dsimp only at hSw); go_simp; try (with_reducible rfl))
              try simp only [Act.put, List.setIfInBounds_toArray, List.set_cons_zero, List.set_cons_succ]
              refine take_list (i := 27) (v := ?_) rfl (by kernel_rfl) (by kernel_rfl) (by kernel_rfl) (fun _ _ _ h => h) (Or.inl ⟨by rfl, ?_⟩) (by assumption) ?_
              rotate_left
              · (intro w hSw; (try dsimp only at hSw); go_simp; try (with_reducible rfl))
              try simp only [Act.put, List.setIfInBounds_toArray, List.set_cons_zero, List.set_cons_succ]
              refine take_list (i := 28) (v := ?_) rfl (by kernel_rfl) (by kernel_rfl) (by kernel_rfl) (fun _ _ _ h => h) (Or.inl ⟨by rfl, ?_⟩) (by assumption) ?_
              rotate_left
              · (intro w hSw; (try dsimp only at hSw); go_simp; try (with_reducible rfl))
              try simp only [Act.put, List.setIfInBounds_toArray, List.set_cons_zero, List.set_cons_succ]
              refine take_list (i := 29) (v := ?_) rfl (by kernel_rfl) (by kernel_rfl) (by kernel_rfl) (fun _ _ _ h => h) (Or.inl ⟨by rfl, ?_⟩) (by assumption) ?_
              rotate_left
              · (intro w hSw; (try dsimp only at hSw); go_simp; try (with_reducible rfl))
              try simp only [Act.put, List.setIfInBounds_toArray, List.set_cons_zero, List.set_cons_succ]
              refine take_list (i := 31) (v := ?_) rfl (by kernel_rfl) (by kernel_rfl) (by kernel_rfl) (fun _ _ _ h => h) (Or.inl ⟨by rfl, ?_⟩) (by assumption) ?_
              rotate_left
              · (intro w hSw; (try dsimp only at hSw); go_simp; try (with_reducible rfl))
              try simp only [Act.put, List.setIfInBounds_toArray, List.set_cons_zero, List.set_cons_succ]
              refine take_list (i := 32) (v := ?_) rfl (by kernel_rfl) (by kernel_rfl) (by kernel_rfl) (fun _ _ _ h => h) (Or.inl ⟨by rfl, ?_⟩) (by assumption) ?_
              rotate_left
              · (intro w hSw; (try dsimp only at hSw); go_simp; try (with_reducible rfl))
              try simp only [Act.put, List.setIfInBounds_toArray, List.set_cons_zero, List.set_cons_succ]
              refine wpAnyH_ready (rs := [30]) (by kernel_rfl) (by simp) ?_
              refine cons_list rfl (fun K hK => ?_) AllReadyH.nil
              go_simp
              (go_at_call 19; refine (CG.out _ hB15).mono ?_; rintro e w16 ⟨A9, c9, rfl, hr9, hB16⟩)
              refine hK.out _ _ (HC.out _ (by assumption)) (fun hHeld4 => ?_)
              clear hK K hHeld3
              try simp only [Act.put, List.setIfInBounds_toArray, List.set_cons_zero, List.set_cons_succ]
              refine wpAnyH_ready (rs := [33]) (by kernel_rfl) (by simp) ?_
              refine cons_list rfl (fun K hK => ?_) AllReadyH.nil
              go_simp
              (go_at_call 20; refine (CG2.out _ hB16).mono ?_; rintro e w17 ⟨A8, c8, rfl, hr8, hB17, hBB⟩; have hr9' := hr9.call hBB)
              refine hK.out _ _ (HC.out _ (by assumption)) (fun hHeld5 => ?_)
              clear hK K hHeld4
              try simp only [Act.put, List.setIfInBounds_toArray, List.set_cons_zero, List.set_cons_succ]
              refine wpAnyH_ready (rs := [34]) (by kernel_rfl) (by simp) ?_
              refine cons_list rfl (fun K hK => ?_) AllReadyH.nil
              go_simp
              (go_at_call 18; refine (CS.out A9 c9 A8 c8 _ hr9' hr8 hB17).mono ?_; rintro e w18 ⟨rfl, hB18⟩)
              refine hK.out _ _ (HC.out _ (by assumption)) (fun hHeld6 => ?_)
              clear hK K hHeld5
              try simp only [Act.put, List.setIfInBounds_toArray, List.set_cons_zero, List.set_cons_succ]
              refine take_list (i := 35) (v := ?_) rfl (by kernel_rfl) (by kernel_rfl) (by kernel_rfl) (fun _ _ _ h => h) (Or.inl ⟨by rfl, ?_⟩) (by assumption) ?_
              rotate_left
              · (intro w hSw; (try dsimp only at hSw); go_simp; try (with_reducible rfl))
              try simp only [Act.put, List.setIfInBounds_toArray, List.set_cons_zero, List.set_cons_succ]
              refine take_list (i := 36) (v := ?_) rfl (by kernel_rfl) (by kernel_rfl) (by kernel_rfl) (fun _ _ _ h => h) (Or.inl ⟨by rfl, ?_⟩) (by assumption) ?_
              rotate_left
              · (intro w hSw; (try dsimp only at hSw); go_simp; try (with_reducible rfl))
              try simp only [Act.put, List.setIfInBounds_toArray, List.set_cons_zero, List.set_cons_succ]
              refine wpAnyH_done (by kernel_rfl) ?_ _
              clear hHeld6
              have S18 := Lib.hid (S12.out.call hB18)
              have T18 := Lib.hid (T12.out.call hB18)
              have R18 := Lib.hid (R12.out.call hB18)
              clear hBd hB13 hB14 hB15 hB16 hB17 hB18 hBB hr9 hr8 hr9' hq1 hq2 hq3 hq4
              go_wp2
              go_roundw
              case rel => exact ⟨i + 1, ow'', L', A', c', M', D', d', by omega, by omega, by go_num, S18.out, T18.out, R18.out, HLM'.out, by omega⟩
              case measure => simp [intOf]; omega
          · have hx : (i < l1.length ∧ ¬ (i : Int) < 30) ∨ ¬ i < l1.length := by
              by_cases h1 : i < l1.length
              · exact .inl ⟨h1, fun h => hlt ⟨h1, h⟩⟩
              · exact .inr h1
            clear hlt
            have XA := Lib.hid (X3.out.call SY.out.base)
            have HFE := Lib.hid (find_eq TY.out.ok r)
            have HC : Hid (∀ wy, Below wr.heap.size wr wy → wy.cell? ⟨w.heap.size, 0, none⟩ = some (.int .i64 r.kind) ∧ wy.cell? ⟨w.heap.size, 1, none⟩ = some (.int .i64 r.cost) ∧ wy.cell? ⟨w.heap.size, 2, none⟩ = some (.slice A2 r.path.length c2)) := Lib.hid (fun wy hb => (XA.out.call hb).at_)
            have CF : Hid (∀ wy, Below wr.heap.size wr wy → Calls Tryd.prog 16 #[.pointer (some ⟨bt, 0, none⟩), .agg #[.int .i64 r.kind, .int .i64 r.cost, .slice A2 r.path.length c2]] wy fun e w' => e = .returned (.int .i64 (findT (L.map (·.1)) r)) ∧ Below wr.heap.size wr w') := Lib.hid (fun wy hb =>
              (findN_any r A2 c2 (TY.out.call hb) (XA.out.call hb).rt ((SY.out.call hb).tab0 HT3.out)).mono fun e w' ⟨h1, h2⟩ => ⟨by rw [h1, HFE.out], since_trans hb h2⟩)
            have CF2 : Hid (∀ wy, Below wr.heap.size wr wy → Calls Tryd.prog 17 #[.pointer (some ⟨bs, 0, none⟩), .agg #[.int .i64 r.kind, .int .i64 r.cost, .slice A2 r.path.length c2]] wy fun e w' => e = .returned (.int .i64 (findT (L.map (·.1)) r)) ∧ Below wr.heap.size wr w') := Lib.hid (fun wy hb =>
              (rfind8_any r A2 c2 (RY.out.call hb) (XA.out.call hb).rt (by omega)).mono fun e w' ⟨h1, h2⟩ => ⟨by rw [h1, HLM.out], since_trans hb h2⟩)
            have CG : Hid (∀ wy, Below wr.heap.size wr wy → Calls Tryd.prog 19 #[.pointer (some ⟨bt, 0, none⟩), .int .i64 n3] wy fun e w' => ∃ A9 c9, e = .returned (.agg #[.int .i64 (getT (L.map (·.1)) n3).kind, .int .i64 (getT (L.map (·.1)) n3).cost, .slice A9 (getT (L.map (·.1)) n3).path.length c9]) ∧ RtR w' w'.heap.size (getT (L.map (·.1)) n3) A9 c9 ∧ Below wr.heap.size wr w') := Lib.hid (fun wy hb =>
              (getN_any n3 (TY.out.call hb)).mono fun e w' ⟨A9, c9, h1, h2, h3⟩ => ⟨A9, c9, h1, h2.rt _ _, since_trans hb h3⟩)
            have CG2 : Hid (∀ wy, Below wr.heap.size wr wy → Calls Tryd.prog 20 #[.pointer (some ⟨bs, 0, none⟩), .int .i64 n3] wy fun e w' => ∃ A8 c8, e = .returned (.agg #[.int .i64 (getT (L.map (·.1)) n3).kind, .int .i64 (getT (L.map (·.1)) n3).cost, .slice A8 (getT (L.map (·.1)) n3).path.length c8]) ∧ RtR w' w'.heap.size (getT (L.map (·.1)) n3) A8 c8 ∧ Below wr.heap.size wr w' ∧ Below wy.heap.size wy w') := Lib.hid (fun wy hb =>
              (rget8_any n3 (RY.out.call hb) (by omega)).mono fun e w' ⟨A8, c8, h1, h2, h3⟩ => ⟨A8, c8, by rw [h1, HLM.out]; rfl, by rw [HLM.out] at h2; exact h2, since_trans hb h3, h3⟩)
            generalize findT (L.map (·.1)) r = ff at *
            generalize getT (L.map (·.1)) n3 = gi at *
            have CS : Hid (∀ A9 c9 A8 c8 wy, RtR wy wy.heap.size gi A9 c9 → RtR wy wy.heap.size gi A8 c8 → Below wr.heap.size wr wy → Calls Tryd.prog 18 #[.agg #[.int .i64 gi.kind, .int .i64 gi.cost, .slice A9 gi.path.length c9], .agg #[.int .i64 gi.kind, .int .i64 gi.cost, .slice A8 gi.path.length c8]] wy fun e w' => e = .returned (.bool true) ∧ Below wr.heap.size wr w') := Lib.hid (fun A9 c9 A8 c8 wy h9 h8 hb =>
              (refSame_any gi gi A9 A8 c9 c8 wy h9 h8).mono fun e w' ⟨h1, h2⟩ => ⟨by rw [h1]; simp, since_trans hb h2⟩)
            rcases hx with ⟨h1, h2⟩ | h1 <;> (
              go_upto_region 20 with fail
              clear h1
              have hq4 : (ff != ff) = false := by simp
              have hBd : Below wr.heap.size wr wr.drew := below_drew (Below.refl _ _)
              refine wp_region_held_drew (S := (fun wy => wy.cell? ⟨w.heap.size, 0, none⟩ = some (.int .i64 r.kind) ∧ wy.cell? ⟨w.heap.size, 1, none⟩ = some (.int .i64 r.cost) ∧ wy.cell? ⟨w.heap.size, 2, none⟩ = some (.slice A2 r.path.length c2))) (by kernel_rfl) (HC.out _ hBd) (fun hHeld0 => ?_)
              refine take_list (i := 0) (v := ?_) rfl (by kernel_rfl) (by kernel_rfl) (by kernel_rfl) (fun _ _ _ h => h) (Or.inl ⟨by rfl, ?_⟩) (by assumption) ?_
              rotate_left
              · (intro w hSw; (try dsimp only at hSw); go_simp; try (with_reducible rfl))
              try simp only [Act.put, List.setIfInBounds_toArray, List.set_cons_zero, List.set_cons_succ]
              refine take_list (i := 1) (v := ?_) rfl (by kernel_rfl) (by kernel_rfl) (by kernel_rfl) (fun _ _ _ h => h) (Or.inl ⟨by rfl, ?_⟩) (by assumption) ?_
              rotate_left
              · (intro w hSw; (try dsimp only at hSw); go_simp; try (with_reducible rfl))
              try simp only [Act.put, List.setIfInBounds_toArray, List.set_cons_zero, List.set_cons_succ]
              refine take_list (i := 3) (v := ?_) rfl (by kernel_rfl) (by kernel_rfl) (by kernel_rfl) (fun _ _ _ h => h) (Or.inl ⟨by rfl, ?_⟩) (by assumption) ?_
              rotate_left
              · (intro w hSw; (try dsimp only at hSw); go_simp; try (with_reducible rfl))
              try simp only [Act.put, List.setIfInBounds_toArray, List.set_cons_zero, List.set_cons_succ]
              refine take_list (i := 4) (v := ?_) rfl (by kernel_rfl) (by kernel_rfl) (by kernel_rfl) (fun _ _ _ h => h) (Or.inl ⟨by rfl, ?_⟩) (by assumption) ?_
              rotate_left
              · (intro w hSw; (try dsimp only at hSw); go_simp; try (with_reducible rfl))
              try simp only [Act.put, List.setIfInBounds_toArray, List.set_cons_zero, List.set_cons_succ]
              refine wpAnyH_ready (rs := [2]) (by kernel_rfl) (by simp) ?_
              refine cons_list rfl (fun K hK => ?_) AllReadyH.nil
              go_simp
              (go_at_call 16; refine (CF.out _ hBd).mono ?_; rintro e w14 ⟨rfl, hB14⟩)
              refine hK.out _ _ (HC.out _ (by assumption)) (fun hHeld1 => ?_)
              clear hK K hHeld0
              try simp only [Act.put, List.setIfInBounds_toArray, List.set_cons_zero, List.set_cons_succ]
              refine wpAnyH_ready (rs := [5]) (by kernel_rfl) (by simp) ?_
              refine cons_list rfl (fun K hK => ?_) AllReadyH.nil
              go_simp
              (go_at_call 17; refine (CF2.out _ hB14).mono ?_; rintro e w15 ⟨rfl, hB15⟩)
              refine hK.out _ _ (HC.out _ (by assumption)) (fun hHeld2 => ?_)
              clear hK K hHeld1
              try simp only [Act.put, List.setIfInBounds_toArray, List.set_cons_zero, List.set_cons_succ]
              refine take_list (i := 6) (v := ?_) rfl (by kernel_rfl) (by kernel_rfl) (by kernel_rfl) (fun _ _ _ h => h) (Or.inl ⟨by rfl, ?_⟩) (by assumption) ?_
              rotate_left
              · (intro w hSw; (try dsimp only at hSw); go_simp; try (with_reducible rfl))
              try simp only [Act.put, List.setIfInBounds_toArray, List.set_cons_zero, List.set_cons_succ]
              refine take_list (i := 7) (v := ?_) rfl (by kernel_rfl) (by kernel_rfl) (by kernel_rfl) (fun _ _ _ h => h) (Or.inl ⟨by rfl, ?_⟩) (by assumption) ?_
              rotate_left
              · (intro w hSw; (try dsimp only at hSw); go_simp; try (with_reducible rfl))
              try simp only [Act.put, List.setIfInBounds_toArray, List.set_cons_zero, List.set_cons_succ]
              refine take_list (i := 8) (v := ?_) rfl (by kernel_rfl) (by kernel_rfl) (by kernel_rfl) (fun _ _ _ h => h) (Or.inl ⟨by rfl, ?_⟩) (by assumption) ?_
              rotate_left
              · (intro w hSw; (try dsimp only at hSw); go_simp; try (with_reducible rfl))
              try simp only [Act.put, List.setIfInBounds_toArray, List.set_cons_zero, List.set_cons_succ]
              refine take_list (i := 9) (v := ?_) rfl (by kernel_rfl) (by kernel_rfl) (by kernel_rfl) (fun _ _ _ h => h) (Or.inl ⟨by rfl, ?_⟩) (by assumption) ?_
              rotate_left
              · (intro w hSw; (try dsimp only at hSw); go_simp; try (with_reducible rfl))
              try simp only [Act.put, List.setIfInBounds_toArray, List.set_cons_zero, List.set_cons_succ]
              refine take_list (i := 11) (v := ?_) rfl (by kernel_rfl) (by kernel_rfl) (by kernel_rfl) (fun _ _ _ h => h) (Or.inl ⟨by rfl, ?_⟩) (by assumption) ?_
              rotate_left
              · (intro w hSw; (try dsimp only at hSw); go_simp; try (with_reducible rfl))
              try simp only [Act.put, List.setIfInBounds_toArray, List.set_cons_zero, List.set_cons_succ]
              refine take_list (i := 12) (v := ?_) rfl (by kernel_rfl) (by kernel_rfl) (by kernel_rfl) (fun _ _ _ h => h) (Or.inl ⟨by rfl, ?_⟩) (by assumption) ?_
              rotate_left
              · (intro w hSw; (try dsimp only at hSw); go_simp; try (with_reducible rfl))
              try simp only [Act.put, List.setIfInBounds_toArray, List.set_cons_zero, List.set_cons_succ]
              refine wpAnyH_ready (rs := [10]) (by kernel_rfl) (by simp) ?_
              refine cons_list rfl (fun K hK => ?_) AllReadyH.nil
              go_simp
              (go_at_call 19; refine (CG.out _ hB15).mono ?_; rintro e w16 ⟨A9, c9, rfl, hr9, hB16⟩)
              refine hK.out _ _ (HC.out _ (by assumption)) (fun hHeld3 => ?_)
              clear hK K hHeld2
              try simp only [Act.put, List.setIfInBounds_toArray, List.set_cons_zero, List.set_cons_succ]
              refine wpAnyH_ready (rs := [13]) (by kernel_rfl) (by simp) ?_
              refine cons_list rfl (fun K hK => ?_) AllReadyH.nil
              go_simp
              (go_at_call 20; refine (CG2.out _ hB16).mono ?_; rintro e w17 ⟨A8, c8, rfl, hr8, hB17, hBB⟩; have hr9' := hr9.call hBB)
              refine hK.out _ _ (HC.out _ (by assumption)) (fun hHeld4 => ?_)
              clear hK K hHeld3
              try simp only [Act.put, List.setIfInBounds_toArray, List.set_cons_zero, List.set_cons_succ]
              refine wpAnyH_ready (rs := [14]) (by kernel_rfl) (by simp) ?_
              refine cons_list rfl (fun K hK => ?_) AllReadyH.nil
              go_simp
              (go_at_call 18; refine (CS.out A9 c9 A8 c8 _ hr9' hr8 hB17).mono ?_; rintro e w18 ⟨rfl, hB18⟩)
              refine hK.out _ _ (HC.out _ (by assumption)) (fun hHeld5 => ?_)
              clear hK K hHeld4
              try simp only [Act.put, List.setIfInBounds_toArray, List.set_cons_zero, List.set_cons_succ]
              refine take_list (i := 15) (v := ?_) rfl (by kernel_rfl) (by kernel_rfl) (by kernel_rfl) (fun _ _ _ h => h) (Or.inl ⟨by rfl, ?_⟩) (by assumption) ?_
              rotate_left
              · (intro w hSw; (try dsimp only at hSw); go_simp; try (with_reducible rfl))
              try simp only [Act.put, List.setIfInBounds_toArray, List.set_cons_zero, List.set_cons_succ]
              refine take_list (i := 16) (v := ?_) rfl (by kernel_rfl) (by kernel_rfl) (by kernel_rfl) (fun _ _ _ h => h) (Or.inl ⟨by rfl, ?_⟩) (by assumption) ?_
              rotate_left
              · (intro w hSw; (try dsimp only at hSw); go_simp; try (with_reducible rfl))
              try simp only [Act.put, List.setIfInBounds_toArray, List.set_cons_zero, List.set_cons_succ]
              refine wpAnyH_done (by kernel_rfl) ?_ _
              clear hHeld5
              have S18 := Lib.hid (SY.out.call hB18)
              clear hBd hB14 hB15 hB16 hB17 hB18 hBB hr9 hr8 hr9' hq4
              go_wp2
              go_roundw
              case rel => exact ⟨k + 1, ow, by omega, by go_num, S18.out⟩
              case measure => simp [intOf]; omega)
      · rw [hg]
        clear hg
        go_wp2_with fail
        go_loopw [16] (fun si wx => ∃ (i : Nat) (ow : Nat → Nat) (L : List RtZ) (A : Option Addr) (c : Nat) (M : List RtZ) (D : Option Addr) (d : Nat), i ≤ l1.length ∧ i ≤ 30 ∧ si = .int .i64 i ∧ TS w3 wx ow ∧ TabN wx ow 3 none m L A c ∧ RefT wx ow 4 bs m M D d ∧ M.map (·.1) = L.map (·.1) ∧ L.length ≤ i + 1) (fun si _ => 30 - (intOf si).toNat)
        case atStart => exact ⟨0, ow2, L, A, c, M, D, d, Nat.zero_le _, by omega, rfl, S6.out, T6.out, R6.out, HLM.out, HLl.out⟩
        case round =>
          obtain ⟨i, ow, L, A, c, M, D, d, hi, hi30, rfl, hS, hT, hR, hLM, hLi⟩ := hrel
          have SY := Lib.hid hS
          have TY := Lib.hid hT
          have RY := Lib.hid hR
          have HLM := Lib.hid hLM
          have hM31 : M.length ≤ 31 := by have := congrArg List.length hLM; simp at this; omega
          have hL31 : L.length ≤ 31 := by omega
          have HNIM : Hid (m = 0 → M = []) := Lib.hid (fun h => by have h1 := TabN.nil0 hT (by first | exact .inl rfl | exact HPM.out) h; rw [h1] at hLM; simpa using hLM)
          clear hS hT hR hLM
          by_cases hlt : i < l1.length ∧ (i : Int) < 30
          · obtain ⟨hlt, h30⟩ := hlt
            have RW := Lib.hid (H03.out.call SY.out.base)
            obtain ⟨z, hz⟩ : ∃ z, (l1.zip V1)[i]? = some z := ⟨_, List.getElem?_eq_getElem (by have := RW.out.len; rw [List.length_zip]; omega)⟩
            obtain ⟨b, o, rfl, hb, hc⟩ := RW.out.row.one (i := i) (x := rowV z) (by rw [List.getElem?_map, hz]; rfl)
            have IR := Lib.hid (RW.out.each z (List.mem_of_getElem? hz))
            have hi0 : (0 : Int) ≤ (i : Int) := by omega
            unfold rowV at hc
            have HCC := Lib.hid hc
            have HBB := Lib.hid hb
            clear hz hb
            go_wp2_with fail
            refine (route_any z.1 z.2.1 z.2.2 _ IR.out.rd IR.out.in64 IR.out.len).mono ?_
            rintro e w8 ⟨A3, c3, rfl, ho3, hb3⟩
            generalize routeR z.1 = r3 at *
            obtain ⟨owa, hx1, hx2⟩ := tag_new wr ow 0
            obtain ⟨owb, hy1, hy2⟩ := tag_new w8 owa 7
            have hbo : Below w8.heap.size w8 (w8.alloc (.cells #[.int .i64 r3.kind, .int .i64 r3.cost, .slice A3 r3.path.length c3] 25)) := (Below.refl _ _).alloc (Nat.le_refl _) _
            have S8 := Lib.hid ((((SY.out.retag hx1).call hb3).retag hy1).call hbo)
            have T8 := Lib.hid ((((TY.out.retag hx1).call hb3).retag hy1).call hbo)
            have R8 := Lib.hid ((((RY.out.retag hx1).call hb3).retag hy1).call hbo)
            have X8 := Lib.hid (RX.new (r := r3) (.inl ho3) hx2 hy1 hy2)
            have hc9 := ((since_trans hb3 hbo).cell (p := ⟨b, o + i, none⟩) HBB.out).trans HCC.out
            clear hc hbo hx1 hx2 hy1 hy2 ho3 hb3
            unfold rtV
            go_upto_region 14 with fail
            generalize (w8.alloc (.cells #[.int .i64 r3.kind, .int .i64 r3.cost, .slice A3 r3.path.length c3] 25)) = w9 at *
            generalize w8.heap.size = bo at *
            by_cases hz3 : z.1.length = 3
            · have hd3 : ((z.1.length : Int) == 3) = true := by rw [hz3]; rfl
              have XA := Lib.hid (X3.out.call S8.out.base)
              obtain ⟨a0, a1', a2⟩ := XA.out.at_
              have f0 := frozen_of_row _ _ 0 _ _ X8.out.box
              have f1 := frozen_of_row _ _ 1 _ _ X8.out.box
              have f2 := frozen_of_row _ _ 2 _ _ X8.out.box
              obtain ⟨b0, b1, b2⟩ := X8.out.at_
              obtain ⟨hX, hC⟩ := X8.out.store (x := r) (A' := A2) (c' := c2) XA.out.rt (fun hp g hg => .inr (S8.out.old g (by
                obtain ⟨b', o', e, hb', -⟩ := X3.out.rt.1.2 (by have := List.length_pos_iff.2 hp; omega)
                rw [e] at hg; simp [blk] at hg; omega)))
              have SZ := Lib.hid (S8.out.chg hC H7.out.2.1)
              have TZ := Lib.hid (T8.out.step (Agr.refl _ _) hC H7.out.2.2.1 H7.out.1)
              have RZ := Lib.hid (R8.out.chg hC H7.out.2.2.2 H7.out.1)
              have XZ := Lib.hid hX
              clear hX hC hz3
              go_upto_region 16 with fail
              generalize (((w9.setCell ⟨bo, 0, none⟩ (.int .i64 r.kind)).setCell ⟨bo, 1, none⟩ (.int .i64 r.cost)).setCell ⟨bo, 2, none⟩ (.slice A2 r.path.length c2)) = wz at *
              clear hc9 hd3 a0 a1' a2 f0 f1 f2 b0 b1 b2
              obtain ⟨b0, b1, b2⟩ := XZ.out.at_
              go_wp2_with fail
              refine (addN_any r A2 c2 TZ.out H3.out.1 (XZ.out.rtT H3.out.1 H3.out.2.1) (SZ.out.tab HT3.out H3.out.2.1) (by omega)).mono ?_
              rintro e w11 ⟨L', A', c', ow', rfl, hL', hag, htab, hch⟩
              have T11 := Lib.hid htab
              have S11 := Lib.hid (SZ.out.step9 hag hch H3.out.2.1)
              have R11 := Lib.hid (RZ.out.step hag hch H3.out.2.2.2 H3.out.1)
              have X11 := Lib.hid (XZ.out.step hag hch H3.out.2.2.1 H3.out.1 H3.out.2.1)
              have HL' := Lib.hid hL'
              clear htab hag hch hL' b0 b1 b2
              obtain ⟨b0, b1, b2⟩ := X11.out.at_
              go_wp2_with fail
              refine (radd8_any r A2 c2 R11.out H4.out.1 X11.out.rt HNIM.out (by omega)).mono ?_
              rintro e w12 ⟨M', D', d', ow'', rfl, hM', hag, htab, hch⟩
              rw [HLM.out] at hM' ⊢
              have T12 := Lib.hid (T11.out.step hag hch H4.out.2.2.2 H4.out.1)
              have S12 := Lib.hid (S11.out.step9 hag hch H4.out.2.1)
              have R12 := Lib.hid htab
              have X12 := Lib.hid (X11.out.step hag hch H4.out.2.2.1 H4.out.1 H4.out.2.1)
              have HLM' : Hid (M'.map (·.1) = L'.map (·.1)) := Lib.hid (hM'.trans HL'.out.symm)
              have hL'l : L'.length ≤ i + 1 + 1 := by
                have h1 := congrArg List.length HL'.out
                rw [List.length_map] at h1
                have h2 := addGL_len m (L.map (·.1)) r
                rw [List.length_map] at h2
                omega
              have hM'l : M'.length = L'.length := by have := congrArg List.length HLM'.out; simpa using this
              have HM'l := Lib.hid hM'l
              generalize addGN m (L.map (·.1)) r = kn at *
              generalize addGE m (L.map (·.1)) r = ke at *
              clear htab hag hch hM' b0 b1 b2 hM'l
              go_upto_region 18 with fail
              have HFE := Lib.hid (find_eq T12.out.ok r)
              have HC : Hid (∀ wy, Below w12.heap.size w12 wy → wy.cell? ⟨bs, 1, none⟩ = some (.slice D' L'.length d') ∧ wy.cell? ⟨bo, 0, none⟩ = some (.int .i64 r.kind) ∧ wy.cell? ⟨bo, 1, none⟩ = some (.int .i64 r.cost) ∧ wy.cell? ⟨bo, 2, none⟩ = some (.slice A2 r.path.length c2)) := Lib.hid (fun wy hb => ⟨by have h1 := (R12.out.call hb).all.2; rw [HM'l.out] at h1; exact h1, (X12.out.call hb).at_⟩)
              have CZ : Hid (∀ wy, Below w12.heap.size w12 wy → Calls Tryd.prog 15 #[.pointer none] wy fun e w' => e = .returned (.int .i64 (L'.length : Int)) ∧ Below w12.heap.size w12 w') := Lib.hid (fun wy hb => (sizeN_any (T12.out.call hb)).mono fun e w' ⟨h1, h2⟩ => ⟨h1, since_trans hb h2⟩)
              have CF : Hid (∀ wy, Below w12.heap.size w12 wy → Calls Tryd.prog 16 #[.pointer none, .agg #[.int .i64 r.kind, .int .i64 r.cost, .slice A2 r.path.length c2]] wy fun e w' => e = .returned (.int .i64 (findT (L'.map (·.1)) r)) ∧ Below w12.heap.size w12 w') := Lib.hid (fun wy hb =>
                (findN_any r A2 c2 (T12.out.call hb) (X12.out.call hb).rt ((S12.out.call hb).tab0 HT3.out)).mono fun e w' ⟨h1, h2⟩ => ⟨by rw [h1, HFE.out], since_trans hb h2⟩)
              have CF2 : Hid (∀ wy, Below w12.heap.size w12 wy → Calls Tryd.prog 17 #[.pointer (some ⟨bs, 0, none⟩), .agg #[.int .i64 r.kind, .int .i64 r.cost, .slice A2 r.path.length c2]] wy fun e w' => e = .returned (.int .i64 (findT (L'.map (·.1)) r)) ∧ Below w12.heap.size w12 w') := Lib.hid (fun wy hb =>
                (rfind8_any r A2 c2 (R12.out.call hb) (X12.out.call hb).rt (by have := HM'l.out; omega)).mono fun e w' ⟨h1, h2⟩ => ⟨by rw [h1, HLM'.out], since_trans hb h2⟩)
              have CG : Hid (∀ wy, Below w12.heap.size w12 wy → Calls Tryd.prog 19 #[.pointer none, .int .i64 (i : Int)] wy fun e w' => ∃ A9 c9, e = .returned (.agg #[.int .i64 (getT (L'.map (·.1)) i).kind, .int .i64 (getT (L'.map (·.1)) i).cost, .slice A9 (getT (L'.map (·.1)) i).path.length c9]) ∧ RtR w' w'.heap.size (getT (L'.map (·.1)) i) A9 c9 ∧ Below w12.heap.size w12 w') := Lib.hid (fun wy hb =>
                (getN_any (i : Int) (T12.out.call hb)).mono fun e w' ⟨A9, c9, h1, h2, h3⟩ => ⟨A9, c9, h1, h2.rt _ _, since_trans hb h3⟩)
              have CG2 : Hid (∀ wy, Below w12.heap.size w12 wy → Calls Tryd.prog 20 #[.pointer (some ⟨bs, 0, none⟩), .int .i64 (i : Int)] wy fun e w' => ∃ A8 c8, e = .returned (.agg #[.int .i64 (getT (L'.map (·.1)) i).kind, .int .i64 (getT (L'.map (·.1)) i).cost, .slice A8 (getT (L'.map (·.1)) i).path.length c8]) ∧ RtR w' w'.heap.size (getT (L'.map (·.1)) i) A8 c8 ∧ Below w12.heap.size w12 w' ∧ Below wy.heap.size wy w') := Lib.hid (fun wy hb =>
                (rget8_any (i : Int) (R12.out.call hb) (by have := HM'l.out; omega)).mono fun e w' ⟨A8, c8, h1, h2, h3⟩ => ⟨A8, c8, by rw [h1, HLM'.out]; rfl, by rw [HLM'.out] at h2; exact h2, since_trans hb h3, h3⟩)
              generalize findT (L'.map (·.1)) r = ff at *
              generalize getT (L'.map (·.1)) (i : Int) = gi at *
              have CS : Hid (∀ A9 c9 A8 c8 wy, RtR wy wy.heap.size gi A9 c9 → RtR wy wy.heap.size gi A8 c8 → Below w12.heap.size w12 wy → Calls Tryd.prog 18 #[.agg #[.int .i64 gi.kind, .int .i64 gi.cost, .slice A9 gi.path.length c9], .agg #[.int .i64 gi.kind, .int .i64 gi.cost, .slice A8 gi.path.length c8]] wy fun e w' => e = .returned (.bool true) ∧ Below w12.heap.size w12 w') := Lib.hid (fun A9 c9 A8 c8 wy h9 h8 hb =>
                (refSame_any gi gi A9 A8 c9 c8 wy h9 h8).mono fun e w' ⟨h1, h2⟩ => ⟨by rw [h1]; simp, since_trans hb h2⟩)
              have hq1 : (kn != kn) = false := by simp
              have hq2 : (ke != ke) = false := by simp
              have hq3 : ((L'.length : Int) != (L'.length : Int)) = false := by simp
              have hq4 : (ff != ff) = false := by simp
              have hBd : Below w12.heap.size w12 w12.drew := below_drew (Below.refl _ _)
              refine wp_region_held_drew (S := (fun wy => wy.cell? ⟨bs, 1, none⟩ = some (.slice D' L'.length d') ∧ wy.cell? ⟨bo, 0, none⟩ = some (.int .i64 r.kind) ∧ wy.cell? ⟨bo, 1, none⟩ = some (.int .i64 r.cost) ∧ wy.cell? ⟨bo, 2, none⟩ = some (.slice A2 r.path.length c2))) (by kernel_rfl) (HC.out _ hBd) (fun hHeld0 => ?_)
              refine take_list (i := 0) (v := ?_) rfl (by kernel_rfl) (by kernel_rfl) (by kernel_rfl) (fun _ _ _ h => h) (Or.inl ⟨by rfl, ?_⟩) (by assumption) ?_
              rotate_left
              · (intro w hSw; (try dsimp only at hSw); go_simp; try (with_reducible rfl))
              try simp only [Act.put, List.setIfInBounds_toArray, List.set_cons_zero, List.set_cons_succ]
              refine take_list (i := 1) (v := ?_) rfl (by kernel_rfl) (by kernel_rfl) (by kernel_rfl) (fun _ _ _ h => h) (Or.inl ⟨by rfl, ?_⟩) (by assumption) ?_
              rotate_left
              · (intro w hSw; (try dsimp only at hSw); go_simp; try (with_reducible rfl))
              try simp only [Act.put, List.setIfInBounds_toArray, List.set_cons_zero, List.set_cons_succ]
              refine take_list (i := 2) (v := ?_) rfl (by kernel_rfl) (by kernel_rfl) (by kernel_rfl) (fun _ _ _ h => h) (Or.inl ⟨by rfl, ?_⟩) (by assumption) ?_
              rotate_left
              · (intro w hSw; (try dsimp only at hSw); go_simp; try (with_reducible rfl))
              try simp only [Act.put, List.setIfInBounds_toArray, List.set_cons_zero, List.set_cons_succ]
              refine take_list (i := 3) (v := ?_) rfl (by kernel_rfl) (by kernel_rfl) (by kernel_rfl) (fun _ _ _ h => h) (Or.inl ⟨by rfl, ?_⟩) (by assumption) ?_
              rotate_left
              · (intro w hSw; (try dsimp only at hSw); go_simp; try (with_reducible rfl))
              try simp only [Act.put, List.setIfInBounds_toArray, List.set_cons_zero, List.set_cons_succ]
              refine take_list (i := 4) (v := ?_) rfl (by kernel_rfl) (by kernel_rfl) (by kernel_rfl) (fun _ _ _ h => h) (Or.inl ⟨by rfl, ?_⟩) (by assumption) ?_
              rotate_left
              · (intro w hSw; (try dsimp only at hSw); go_simp; try (with_reducible rfl))
              try simp only [Act.put, List.setIfInBounds_toArray, List.set_cons_zero, List.set_cons_succ]
              refine take_list (i := 5) (v := ?_) rfl (by kernel_rfl) (by kernel_rfl) (by kernel_rfl) (fun _ _ _ h => h) (Or.inl ⟨by rfl, ?_⟩) (by assumption) ?_
              rotate_left
              · (intro w hSw; (try dsimp only at hSw); go_simp; try (with_reducible rfl))
              try simp only [Act.put, List.setIfInBounds_toArray, List.set_cons_zero, List.set_cons_succ]
              refine take_list (i := 6) (v := ?_) rfl (by kernel_rfl) (by kernel_rfl) (by kernel_rfl) (fun _ _ _ h => h) (Or.inl ⟨by rfl, ?_⟩) (by assumption) ?_
              rotate_left
              · (intro w hSw; (try dsimp only at hSw); go_simp; try (with_reducible rfl))
              try simp only [Act.put, List.setIfInBounds_toArray, List.set_cons_zero, List.set_cons_succ]
              refine take_list (i := 7) (v := ?_) rfl (by kernel_rfl) (by kernel_rfl) (by kernel_rfl) (fun _ _ _ h => h) (Or.inl ⟨by rfl, ?_⟩) (by assumption) ?_
              rotate_left
              · (intro w hSw; (try dsimp only at hSw); go_simp; try (with_reducible rfl))
              try simp only [Act.put, List.setIfInBounds_toArray, List.set_cons_zero, List.set_cons_succ]
              refine take_list (i := 8) (v := ?_) rfl (by kernel_rfl) (by kernel_rfl) (by kernel_rfl) (fun _ _ _ h => h) (Or.inl ⟨by rfl, ?_⟩) (by assumption) ?_
              rotate_left
              · (intro w hSw; (try dsimp only at hSw); go_simp; try (with_reducible rfl))
              try simp only [Act.put, List.setIfInBounds_toArray, List.set_cons_zero, List.set_cons_succ]
              refine take_list (i := 9) (v := ?_) rfl (by kernel_rfl) (by kernel_rfl) (by kernel_rfl) (fun _ _ _ h => h) (Or.inl ⟨by rfl, ?_⟩) (by assumption) ?_
              rotate_left
              · (intro w hSw; (try dsimp only at hSw); go_simp; try (with_reducible rfl))
              try simp only [Act.put, List.setIfInBounds_toArray, List.set_cons_zero, List.set_cons_succ]
              refine take_list (i := 11) (v := ?_) rfl (by kernel_rfl) (by kernel_rfl) (by kernel_rfl) (fun _ _ _ h => h) (Or.inl ⟨by rfl, ?_⟩) (by assumption) ?_
              rotate_left
              · (intro w hSw; (try dsimp only at hSw); go_simp; try (with_reducible rfl))
              try simp only [Act.put, List.setIfInBounds_toArray, List.set_cons_zero, List.set_cons_succ]
              refine take_list (i := 12) (v := ?_) rfl (by kernel_rfl) (by kernel_rfl) (by kernel_rfl) (fun _ _ _ h => h) (Or.inl ⟨by rfl, ?_⟩) (by assumption) ?_
              rotate_left
              · (intro w hSw; (try dsimp only at hSw); go_simp; try (with_reducible rfl))
              try simp only [Act.put, List.setIfInBounds_toArray, List.set_cons_zero, List.set_cons_succ]
              refine take_list (i := 13) (v := ?_) rfl (by kernel_rfl) (by kernel_rfl) (by kernel_rfl) (fun _ _ _ h => h) (Or.inl ⟨by rfl, ?_⟩) (by assumption) ?_
              rotate_left
              · (intro w hSw; (try dsimp only at hSw); go_simp; try (with_reducible rfl))
              try simp only [Act.put, List.setIfInBounds_toArray, List.set_cons_zero, List.set_cons_succ]
              refine take_list (i := 14) (v := ?_) rfl (by kernel_rfl) (by kernel_rfl) (by kernel_rfl) (fun _ _ _ h => h) (Or.inl ⟨by rfl, ?_⟩) (by assumption) ?_
              rotate_left
              · (intro w hSw; (try dsimp only at hSw); go_simp; try (with_reducible rfl))
              try simp only [Act.put, List.setIfInBounds_toArray, List.set_cons_zero, List.set_cons_succ]
              refine take_list (i := 15) (v := ?_) rfl (by kernel_rfl) (by kernel_rfl) (by kernel_rfl) (fun _ _ _ h => h) (Or.inl ⟨by rfl, ?_⟩) (by assumption) ?_
              rotate_left
              · (intro w hSw; (try dsimp only at hSw); go_simp; try (with_reducible rfl))
              try simp only [Act.put, List.setIfInBounds_toArray, List.set_cons_zero, List.set_cons_succ]
              refine wpAnyH_ready (rs := [10]) (by kernel_rfl) (by simp) ?_
              refine cons_list rfl (fun K hK => ?_) AllReadyH.nil
              go_simp
              (go_at_call 15; refine (CZ.out _ hBd).mono ?_; rintro e w13 ⟨rfl, hB13⟩)
              refine hK.out _ _ (HC.out _ (by assumption)) (fun hHeld1 => ?_)
              clear hK K hHeld0
              try simp only [Act.put, List.setIfInBounds_toArray, List.set_cons_zero, List.set_cons_succ]
              refine take_list (i := 16) (v := ?_) rfl (by kernel_rfl) (by kernel_rfl) (by kernel_rfl) (fun _ _ _ h => h) (Or.inl ⟨by rfl, ?_⟩) (by assumption) ?_
              rotate_left
              · (intro w hSw; (try dsimp only at hSw); go_simp; try (with_reducible rfl))
              try simp only [Act.put, List.setIfInBounds_toArray, List.set_cons_zero, List.set_cons_succ]
              refine take_list (i := 17) (v := ?_) rfl (by kernel_rfl) (by kernel_rfl) (by kernel_rfl) (fun _ _ _ h => h) (Or.inl ⟨by rfl, ?_⟩) (by assumption) ?_
              rotate_left
              · (intro w hSw; (try dsimp only at hSw); go_simp; try (with_reducible rfl))
              try simp only [Act.put, List.setIfInBounds_toArray, List.set_cons_zero, List.set_cons_succ]
              refine take_list (i := 18) (v := ?_) rfl (by kernel_rfl) (by kernel_rfl) (by kernel_rfl) (fun _ _ _ h => h) (Or.inl ⟨by rfl, ?_⟩) (by assumption) ?_
              rotate_left
              · (intro w hSw; (try dsimp only at hSw); go_simp; try (with_reducible rfl))
              try simp only [Act.put, List.setIfInBounds_toArray, List.set_cons_zero, List.set_cons_succ]
              refine take_list (i := 19) (v := ?_) rfl (by kernel_rfl) (by kernel_rfl) (by kernel_rfl) (fun _ _ _ h => h) (Or.inl ⟨by rfl, ?_⟩) (by assumption) ?_
              rotate_left
              · (intro w hSw; (try dsimp only at hSw); go_simp; try (with_reducible rfl))
              try simp only [Act.put, List.setIfInBounds_toArray, List.set_cons_zero, List.set_cons_succ]
              refine take_list (i := 20) (v := ?_) rfl (by kernel_rfl) (by kernel_rfl) (by kernel_rfl) (fun _ _ _ h => h) (Or.inl ⟨by rfl, ?_⟩) (by assumption) ?_
              rotate_left
              · (intro w hSw; (try dsimp only at hSw); go_simp; try (with_reducible rfl))
              try simp only [Act.put, List.setIfInBounds_toArray, List.set_cons_zero, List.set_cons_succ]
              refine take_list (i := 22) (v := ?_) rfl (by kernel_rfl) (by kernel_rfl) (by kernel_rfl) (fun _ _ _ h => h) (Or.inl ⟨by rfl, ?_⟩) (by assumption) ?_
              rotate_left
              · (intro w hSw; (try dsimp only at hSw); go_simp; try (with_reducible rfl))
              try simp only [Act.put, List.setIfInBounds_toArray, List.set_cons_zero, List.set_cons_succ]
              refine take_list (i := 23) (v := ?_) rfl (by kernel_rfl) (by kernel_rfl) (by kernel_rfl) (fun _ _ _ h => h) (Or.inl ⟨by rfl, ?_⟩) (by assumption) ?_
              rotate_left
              · (intro w hSw; (try dsimp only at hSw); go_simp; try (with_reducible rfl))
              try simp only [Act.put, List.setIfInBounds_toArray, List.set_cons_zero, List.set_cons_succ]
              refine wpAnyH_ready (rs := [21]) (by kernel_rfl) (by simp) ?_
              refine cons_list rfl (fun K hK => ?_) AllReadyH.nil
              go_simp
              (go_at_call 16; refine (CF.out _ hB13).mono ?_; rintro e w14 ⟨rfl, hB14⟩)
              refine hK.out _ _ (HC.out _ (by assumption)) (fun hHeld2 => ?_)
              clear hK K hHeld1
              try simp only [Act.put, List.setIfInBounds_toArray, List.set_cons_zero, List.set_cons_succ]
              refine wpAnyH_ready (rs := [24]) (by kernel_rfl) (by simp) ?_
              refine cons_list rfl (fun K hK => ?_) AllReadyH.nil
              go_simp
              (go_at_call 17; refine (CF2.out _ hB14).mono ?_; rintro e w15 ⟨rfl, hB15⟩)
              refine hK.out _ _ (HC.out _ (by assumption)) (fun hHeld3 => ?_)
              clear hK K hHeld2
              try simp only [Act.put, List.setIfInBounds_toArray, List.set_cons_zero, List.set_cons_succ]
              refine take_list (i := 25) (v := ?_) rfl (by kernel_rfl) (by kernel_rfl) (by kernel_rfl) (fun _ _ _ h => h) (Or.inl ⟨by rfl, ?_⟩) (by assumption) ?_
              rotate_left
              · (intro w hSw; (try dsimp only at hSw); go_simp; try (with_reducible rfl))
              try simp only [Act.put, List.setIfInBounds_toArray, List.set_cons_zero, List.set_cons_succ]
              refine take_list (i := 26) (v := ?_) rfl (by kernel_rfl) (by kernel_rfl) (by kernel_rfl) (fun _ _ _ h => h) (Or.inl ⟨by rfl, ?_⟩) (by assumption) ?_
              rotate_left
              · (intro w hSw; (try dsimp only at hSw); go_simp; try (with_reducible rfl))
              try simp only [Act.put, List.setIfInBounds_toArray, List.set_cons_zero, List.set_cons_succ]
              refine take_list (i := 27) (v := ?_) rfl (by kernel_rfl) (by kernel_rfl) (by kernel_rfl) (fun _ _ _ h => h) (Or.inl ⟨by rfl, ?_⟩) (by assumption) ?_
              rotate_left
              · (intro w hSw; (try dsimp only at hSw); go_simp; try (with_reducible rfl))
              try simp only [Act.put, List.setIfInBounds_toArray, List.set_cons_zero, List.set_cons_succ]
              refine take_list (i := 28) (v := ?_) rfl (by kernel_rfl) (by kernel_rfl) (by kernel_rfl) (fun _ _ _ h => h) (Or.inl ⟨by rfl, ?_⟩) (by assumption) ?_
              rotate_left
              · (intro w hSw; (try dsimp only at hSw); go_simp; try (with_reducible rfl))
              try simp only [Act.put, List.setIfInBounds_toArray, List.set_cons_zero, List.set_cons_succ]
              refine take_list (i := 29) (v := ?_) rfl (by kernel_rfl) (by kernel_rfl) (by kernel_rfl) (fun _ _ _ h => h) (Or.inl ⟨by rfl, ?_⟩) (by assumption) ?_
              rotate_left
              · (intro w hSw; (try dsimp only at hSw); go_simp; try (with_reducible rfl))
              try simp only [Act.put, List.setIfInBounds_toArray, List.set_cons_zero, List.set_cons_succ]
              refine take_list (i := 31) (v := ?_) rfl (by kernel_rfl) (by kernel_rfl) (by kernel_rfl) (fun _ _ _ h => h) (Or.inl ⟨by rfl, ?_⟩) (by assumption) ?_
              rotate_left
              · (intro w hSw; (try dsimp only at hSw); go_simp; try (with_reducible rfl))
              try simp only [Act.put, List.setIfInBounds_toArray, List.set_cons_zero, List.set_cons_succ]
              refine take_list (i := 32) (v := ?_) rfl (by kernel_rfl) (by kernel_rfl) (by kernel_rfl) (fun _ _ _ h => h) (Or.inl ⟨by rfl, ?_⟩) (by assumption) ?_
              rotate_left
              · (intro w hSw; (try dsimp only at hSw); go_simp; try (with_reducible rfl))
              try simp only [Act.put, List.setIfInBounds_toArray, List.set_cons_zero, List.set_cons_succ]
              refine wpAnyH_ready (rs := [30]) (by kernel_rfl) (by simp) ?_
              refine cons_list rfl (fun K hK => ?_) AllReadyH.nil
              go_simp
              (go_at_call 19; refine (CG.out _ hB15).mono ?_; rintro e w16 ⟨A9, c9, rfl, hr9, hB16⟩)
              refine hK.out _ _ (HC.out _ (by assumption)) (fun hHeld4 => ?_)
              clear hK K hHeld3
              try simp only [Act.put, List.setIfInBounds_toArray, List.set_cons_zero, List.set_cons_succ]
              refine wpAnyH_ready (rs := [33]) (by kernel_rfl) (by simp) ?_
              refine cons_list rfl (fun K hK => ?_) AllReadyH.nil
              go_simp
              (go_at_call 20; refine (CG2.out _ hB16).mono ?_; rintro e w17 ⟨A8, c8, rfl, hr8, hB17, hBB⟩; have hr9' := hr9.call hBB)
              refine hK.out _ _ (HC.out _ (by assumption)) (fun hHeld5 => ?_)
              clear hK K hHeld4
              try simp only [Act.put, List.setIfInBounds_toArray, List.set_cons_zero, List.set_cons_succ]
              refine wpAnyH_ready (rs := [34]) (by kernel_rfl) (by simp) ?_
              refine cons_list rfl (fun K hK => ?_) AllReadyH.nil
              go_simp
              (go_at_call 18; refine (CS.out A9 c9 A8 c8 _ hr9' hr8 hB17).mono ?_; rintro e w18 ⟨rfl, hB18⟩)
              refine hK.out _ _ (HC.out _ (by assumption)) (fun hHeld6 => ?_)
              clear hK K hHeld5
              try simp only [Act.put, List.setIfInBounds_toArray, List.set_cons_zero, List.set_cons_succ]
              refine take_list (i := 35) (v := ?_) rfl (by kernel_rfl) (by kernel_rfl) (by kernel_rfl) (fun _ _ _ h => h) (Or.inl ⟨by rfl, ?_⟩) (by assumption) ?_
              rotate_left
              · (intro w hSw; (try dsimp only at hSw); go_simp; try (with_reducible rfl))
              try simp only [Act.put, List.setIfInBounds_toArray, List.set_cons_zero, List.set_cons_succ]
              refine take_list (i := 36) (v := ?_) rfl (by kernel_rfl) (by kernel_rfl) (by kernel_rfl) (fun _ _ _ h => h) (Or.inl ⟨by rfl, ?_⟩) (by assumption) ?_
              rotate_left
              · (intro w hSw; (try dsimp only at hSw); go_simp; try (with_reducible rfl))
              try simp only [Act.put, List.setIfInBounds_toArray, List.set_cons_zero, List.set_cons_succ]
              refine wpAnyH_done (by kernel_rfl) ?_ _
              clear hHeld6
              have S18 := Lib.hid (S12.out.call hB18)
              have T18 := Lib.hid (T12.out.call hB18)
              have R18 := Lib.hid (R12.out.call hB18)
              clear hBd hB13 hB14 hB15 hB16 hB17 hB18 hBB hr9 hr8 hr9' hq1 hq2 hq3 hq4
              go_wp2
              go_roundw
              case rel => exact ⟨i + 1, ow'', L', A', c', M', D', d', by omega, by omega, by go_num, S18.out, T18.out, R18.out, HLM'.out, by omega⟩
              case measure => simp [intOf]; omega
            · have hd3 : ((z.1.length : Int) == 3) = false := by rw [beq_eq_false_iff_ne]; omega
              clear hz3
              go_upto_region 16 with fail
              clear hc9 hd3
              obtain ⟨b0, b1, b2⟩ := X8.out.at_
              go_wp2_with fail
              refine (addN_any r3 A3 c3 T8.out H3.out.1 (X8.out.rtT H3.out.1 H3.out.2.1) (S8.out.tab HT3.out H3.out.2.1) (by omega)).mono ?_
              rintro e w11 ⟨L', A', c', ow', rfl, hL', hag, htab, hch⟩
              have T11 := Lib.hid htab
              have S11 := Lib.hid (S8.out.step9 hag hch H3.out.2.1)
              have R11 := Lib.hid (R8.out.step hag hch H3.out.2.2.2 H3.out.1)
              have X11 := Lib.hid (X8.out.step hag hch H3.out.2.2.1 H3.out.1 H3.out.2.1)
              have HL' := Lib.hid hL'
              clear htab hag hch hL' b0 b1 b2
              obtain ⟨b0, b1, b2⟩ := X11.out.at_
              go_wp2_with fail
              refine (radd8_any r3 A3 c3 R11.out H4.out.1 X11.out.rt HNIM.out (by omega)).mono ?_
              rintro e w12 ⟨M', D', d', ow'', rfl, hM', hag, htab, hch⟩
              rw [HLM.out] at hM' ⊢
              have T12 := Lib.hid (T11.out.step hag hch H4.out.2.2.2 H4.out.1)
              have S12 := Lib.hid (S11.out.step9 hag hch H4.out.2.1)
              have R12 := Lib.hid htab
              have X12 := Lib.hid (X11.out.step hag hch H4.out.2.2.1 H4.out.1 H4.out.2.1)
              have HLM' : Hid (M'.map (·.1) = L'.map (·.1)) := Lib.hid (hM'.trans HL'.out.symm)
              have hL'l : L'.length ≤ i + 1 + 1 := by
                have h1 := congrArg List.length HL'.out
                rw [List.length_map] at h1
                have h2 := addGL_len m (L.map (·.1)) r3
                rw [List.length_map] at h2
                omega
              have hM'l : M'.length = L'.length := by have := congrArg List.length HLM'.out; simpa using this
              have HM'l := Lib.hid hM'l
              generalize addGN m (L.map (·.1)) r3 = kn at *
              generalize addGE m (L.map (·.1)) r3 = ke at *
              clear htab hag hch hM' b0 b1 b2 hM'l
              go_upto_region 18 with fail
              have HFE := Lib.hid (find_eq T12.out.ok r3)
              have HC : Hid (∀ wy, Below w12.heap.size w12 wy → wy.cell? ⟨bs, 1, none⟩ = some (.slice D' L'.length d') ∧ wy.cell? ⟨bo, 0, none⟩ = some (.int .i64 r3.kind) ∧ wy.cell? ⟨bo, 1, none⟩ = some (.int .i64 r3.cost) ∧ wy.cell? ⟨bo, 2, none⟩ = some (.slice A3 r3.path.length c3)) := Lib.hid (fun wy hb => ⟨by have h1 := (R12.out.call hb).all.2; rw [HM'l.out] at h1; exact h1, (X12.out.call hb).at_⟩)
              have CZ : Hid (∀ wy, Below w12.heap.size w12 wy → Calls Tryd.prog 15 #[.pointer none] wy fun e w' => e = .returned (.int .i64 (L'.length : Int)) ∧ Below w12.heap.size w12 w') := Lib.hid (fun wy hb => (sizeN_any (T12.out.call hb)).mono fun e w' ⟨h1, h2⟩ => ⟨h1, since_trans hb h2⟩)
              have CF : Hid (∀ wy, Below w12.heap.size w12 wy → Calls Tryd.prog 16 #[.pointer none, .agg #[.int .i64 r3.kind, .int .i64 r3.cost, .slice A3 r3.path.length c3]] wy fun e w' => e = .returned (.int .i64 (findT (L'.map (·.1)) r3)) ∧ Below w12.heap.size w12 w') := Lib.hid (fun wy hb =>
                (findN_any r3 A3 c3 (T12.out.call hb) (X12.out.call hb).rt ((S12.out.call hb).tab0 HT3.out)).mono fun e w' ⟨h1, h2⟩ => ⟨by rw [h1, HFE.out], since_trans hb h2⟩)
              have CF2 : Hid (∀ wy, Below w12.heap.size w12 wy → Calls Tryd.prog 17 #[.pointer (some ⟨bs, 0, none⟩), .agg #[.int .i64 r3.kind, .int .i64 r3.cost, .slice A3 r3.path.length c3]] wy fun e w' => e = .returned (.int .i64 (findT (L'.map (·.1)) r3)) ∧ Below w12.heap.size w12 w') := Lib.hid (fun wy hb =>
                (rfind8_any r3 A3 c3 (R12.out.call hb) (X12.out.call hb).rt (by have := HM'l.out; omega)).mono fun e w' ⟨h1, h2⟩ => ⟨by rw [h1, HLM'.out], since_trans hb h2⟩)
              have CG : Hid (∀ wy, Below w12.heap.size w12 wy → Calls Tryd.prog 19 #[.pointer none, .int .i64 (i : Int)] wy fun e w' => ∃ A9 c9, e = .returned (.agg #[.int .i64 (getT (L'.map (·.1)) i).kind, .int .i64 (getT (L'.map (·.1)) i).cost, .slice A9 (getT (L'.map (·.1)) i).path.length c9]) ∧ RtR w' w'.heap.size (getT (L'.map (·.1)) i) A9 c9 ∧ Below w12.heap.size w12 w') := Lib.hid (fun wy hb =>
                (getN_any (i : Int) (T12.out.call hb)).mono fun e w' ⟨A9, c9, h1, h2, h3⟩ => ⟨A9, c9, h1, h2.rt _ _, since_trans hb h3⟩)
              have CG2 : Hid (∀ wy, Below w12.heap.size w12 wy → Calls Tryd.prog 20 #[.pointer (some ⟨bs, 0, none⟩), .int .i64 (i : Int)] wy fun e w' => ∃ A8 c8, e = .returned (.agg #[.int .i64 (getT (L'.map (·.1)) i).kind, .int .i64 (getT (L'.map (·.1)) i).cost, .slice A8 (getT (L'.map (·.1)) i).path.length c8]) ∧ RtR w' w'.heap.size (getT (L'.map (·.1)) i) A8 c8 ∧ Below w12.heap.size w12 w' ∧ Below wy.heap.size wy w') := Lib.hid (fun wy hb =>
                (rget8_any (i : Int) (R12.out.call hb) (by have := HM'l.out; omega)).mono fun e w' ⟨A8, c8, h1, h2, h3⟩ => ⟨A8, c8, by rw [h1, HLM'.out]; rfl, by rw [HLM'.out] at h2; exact h2, since_trans hb h3, h3⟩)
              generalize findT (L'.map (·.1)) r3 = ff at *
              generalize getT (L'.map (·.1)) (i : Int) = gi at *
              have CS : Hid (∀ A9 c9 A8 c8 wy, RtR wy wy.heap.size gi A9 c9 → RtR wy wy.heap.size gi A8 c8 → Below w12.heap.size w12 wy → Calls Tryd.prog 18 #[.agg #[.int .i64 gi.kind, .int .i64 gi.cost, .slice A9 gi.path.length c9], .agg #[.int .i64 gi.kind, .int .i64 gi.cost, .slice A8 gi.path.length c8]] wy fun e w' => e = .returned (.bool true) ∧ Below w12.heap.size w12 w') := Lib.hid (fun A9 c9 A8 c8 wy h9 h8 hb =>
                (refSame_any gi gi A9 A8 c9 c8 wy h9 h8).mono fun e w' ⟨h1, h2⟩ => ⟨by rw [h1]; simp, since_trans hb h2⟩)
              have hq1 : (kn != kn) = false := by simp
              have hq2 : (ke != ke) = false := by simp
              have hq3 : ((L'.length : Int) != (L'.length : Int)) = false := by simp
              have hq4 : (ff != ff) = false := by simp
              have hBd : Below w12.heap.size w12 w12.drew := below_drew (Below.refl _ _)
              refine wp_region_held_drew (S := (fun wy => wy.cell? ⟨bs, 1, none⟩ = some (.slice D' L'.length d') ∧ wy.cell? ⟨bo, 0, none⟩ = some (.int .i64 r3.kind) ∧ wy.cell? ⟨bo, 1, none⟩ = some (.int .i64 r3.cost) ∧ wy.cell? ⟨bo, 2, none⟩ = some (.slice A3 r3.path.length c3))) (by kernel_rfl) (HC.out _ hBd) (fun hHeld0 => ?_)
              refine take_list (i := 0) (v := ?_) rfl (by kernel_rfl) (by kernel_rfl) (by kernel_rfl) (fun _ _ _ h => h) (Or.inl ⟨by rfl, ?_⟩) (by assumption) ?_
              rotate_left
              · (intro w hSw; (try dsimp only at hSw); go_simp; try (with_reducible rfl))
              try simp only [Act.put, List.setIfInBounds_toArray, List.set_cons_zero, List.set_cons_succ]
              refine take_list (i := 1) (v := ?_) rfl (by kernel_rfl) (by kernel_rfl) (by kernel_rfl) (fun _ _ _ h => h) (Or.inl ⟨by rfl, ?_⟩) (by assumption) ?_
              rotate_left
              · (intro w hSw; (try dsimp only at hSw); go_simp; try (with_reducible rfl))
              try simp only [Act.put, List.setIfInBounds_toArray, List.set_cons_zero, List.set_cons_succ]
              refine take_list (i := 2) (v := ?_) rfl (by kernel_rfl) (by kernel_rfl) (by kernel_rfl) (fun _ _ _ h => h) (Or.inl ⟨by rfl, ?_⟩) (by assumption) ?_
              rotate_left
              · (intro w hSw; (try dsimp only at hSw); go_simp; try (with_reducible rfl))
              try simp only [Act.put, List.setIfInBounds_toArray, List.set_cons_zero, List.set_cons_succ]
              refine take_list (i := 3) (v := ?_) rfl (by kernel_rfl) (by kernel_rfl) (by kernel_rfl) (fun _ _ _ h => h) (Or.inl ⟨by rfl, ?_⟩) (by assumption) ?_
              rotate_left
              · (intro w hSw; (try dsimp only at hSw); go_simp; try (with_reducible rfl))
              try simp only [Act.put, List.setIfInBounds_toArray, List.set_cons_zero, List.set_cons_succ]
              refine take_list (i := 4) (v := ?_) rfl (by kernel_rfl) (by kernel_rfl) (by kernel_rfl) (fun _ _ _ h => h) (Or.inl ⟨by rfl, ?_⟩) (by assumption) ?_
              rotate_left
              · (intro w hSw; (try dsimp only at hSw); go_simp; try (with_reducible rfl))
              try simp only [Act.put, List.setIfInBounds_toArray, List.set_cons_zero, List.set_cons_succ]
              refine take_list (i := 5) (v := ?_) rfl (by kernel_rfl) (by kernel_rfl) (by kernel_rfl) (fun _ _ _ h => h) (Or.inl ⟨by rfl, ?_⟩) (by assumption) ?_
              rotate_left
              · (intro w hSw; (try dsimp only at hSw); go_simp; try (with_reducible rfl))
              try simp only [Act.put, List.setIfInBounds_toArray, List.set_cons_zero, List.set_cons_succ]
              refine take_list (i := 6) (v := ?_) rfl (by kernel_rfl) (by kernel_rfl) (by kernel_rfl) (fun _ _ _ h => h) (Or.inl ⟨by rfl, ?_⟩) (by assumption) ?_
              rotate_left
              · (intro w hSw; (try dsimp only at hSw); go_simp; try (with_reducible rfl))
              try simp only [Act.put, List.setIfInBounds_toArray, List.set_cons_zero, List.set_cons_succ]
              refine take_list (i := 7) (v := ?_) rfl (by kernel_rfl) (by kernel_rfl) (by kernel_rfl) (fun _ _ _ h => h) (Or.inl ⟨by rfl, ?_⟩) (by assumption) ?_
              rotate_left
              · (intro w hSw; (try dsimp only at hSw); go_simp; try (with_reducible rfl))
              try simp only [Act.put, List.setIfInBounds_toArray, List.set_cons_zero, List.set_cons_succ]
              refine take_list (i := 8) (v := ?_) rfl (by kernel_rfl) (by kernel_rfl) (by kernel_rfl) (fun _ _ _ h => h) (Or.inl ⟨by rfl, ?_⟩) (by assumption) ?_
              rotate_left
              · (intro w hSw; (try dsimp only at hSw); go_simp; try (with_reducible rfl))
              try simp only [Act.put, List.setIfInBounds_toArray, List.set_cons_zero, List.set_cons_succ]
              refine take_list (i := 9) (v := ?_) rfl (by kernel_rfl) (by kernel_rfl) (by kernel_rfl) (fun _ _ _ h => h) (Or.inl ⟨by rfl, ?_⟩) (by assumption) ?_
              rotate_left
              · (intro w hSw; (try dsimp only at hSw); go_simp; try (with_reducible rfl))
              try simp only [Act.put, List.setIfInBounds_toArray, List.set_cons_zero, List.set_cons_succ]
              refine take_list (i := 11) (v := ?_) rfl (by kernel_rfl) (by kernel_rfl) (by kernel_rfl) (fun _ _ _ h => h) (Or.inl ⟨by rfl, ?_⟩) (by assumption) ?_
              rotate_left
              · (intro w hSw; (try dsimp only at hSw); go_simp; try (with_reducible rfl))
              try simp only [Act.put, List.setIfInBounds_toArray, List.set_cons_zero, List.set_cons_succ]
              refine take_list (i := 12) (v := ?_) rfl (by kernel_rfl) (by kernel_rfl) (by kernel_rfl) (fun _ _ _ h => h) (Or.inl ⟨by rfl, ?_⟩) (by assumption) ?_
              rotate_left
              · (intro w hSw; (try dsimp only at hSw); go_simp; try (with_reducible rfl))
              try simp only [Act.put, List.setIfInBounds_toArray, List.set_cons_zero, List.set_cons_succ]
              refine take_list (i := 13) (v := ?_) rfl (by kernel_rfl) (by kernel_rfl) (by kernel_rfl) (fun _ _ _ h => h) (Or.inl ⟨by rfl, ?_⟩) (by assumption) ?_
              rotate_left
              · (intro w hSw; (try dsimp only at hSw); go_simp; try (with_reducible rfl))
              try simp only [Act.put, List.setIfInBounds_toArray, List.set_cons_zero, List.set_cons_succ]
              refine take_list (i := 14) (v := ?_) rfl (by kernel_rfl) (by kernel_rfl) (by kernel_rfl) (fun _ _ _ h => h) (Or.inl ⟨by rfl, ?_⟩) (by assumption) ?_
              rotate_left
              · (intro w hSw; (try dsimp only at hSw); go_simp; try (with_reducible rfl))
              try simp only [Act.put, List.setIfInBounds_toArray, List.set_cons_zero, List.set_cons_succ]
              refine take_list (i := 15) (v := ?_) rfl (by kernel_rfl) (by kernel_rfl) (by kernel_rfl) (fun _ _ _ h => h) (Or.inl ⟨by rfl, ?_⟩) (by assumption) ?_
              rotate_left
              · (intro w hSw; (try dsimp only at hSw); go_simp; try (with_reducible rfl))
              try simp only [Act.put, List.setIfInBounds_toArray, List.set_cons_zero, List.set_cons_succ]
              refine wpAnyH_ready (rs := [10]) (by kernel_rfl) (by simp) ?_
              refine cons_list rfl (fun K hK => ?_) AllReadyH.nil
              go_simp
              (go_at_call 15; refine (CZ.out _ hBd).mono ?_; rintro e w13 ⟨rfl, hB13⟩)
              refine hK.out _ _ (HC.out _ (by assumption)) (fun hHeld1 => ?_)
              clear hK K hHeld0
              try simp only [Act.put, List.setIfInBounds_toArray, List.set_cons_zero, List.set_cons_succ]
              refine take_list (i := 16) (v := ?_) rfl (by kernel_rfl) (by kernel_rfl) (by kernel_rfl) (fun _ _ _ h => h) (Or.inl ⟨by rfl, ?_⟩) (by assumption) ?_
              rotate_left
              · (intro w hSw; (try dsimp only at hSw); go_simp; try (with_reducible rfl))
              try simp only [Act.put, List.setIfInBounds_toArray, List.set_cons_zero, List.set_cons_succ]
              refine take_list (i := 17) (v := ?_) rfl (by kernel_rfl) (by kernel_rfl) (by kernel_rfl) (fun _ _ _ h => h) (Or.inl ⟨by rfl, ?_⟩) (by assumption) ?_
              rotate_left
              · (intro w hSw; (try dsimp only at hSw); go_simp; try (with_reducible rfl))
              try simp only [Act.put, List.setIfInBounds_toArray, List.set_cons_zero, List.set_cons_succ]
              refine take_list (i := 18) (v := ?_) rfl (by kernel_rfl) (by kernel_rfl) (by kernel_rfl) (fun _ _ _ h => h) (Or.inl ⟨by rfl, ?_⟩) (by assumption) ?_
              rotate_left
              · (intro w hSw; (try dsimp only at hSw); go_simp; try (with_reducible rfl))
              try simp only [Act.put, List.setIfInBounds_toArray, List.set_cons_zero, List.set_cons_succ]
              refine take_list (i := 19) (v := ?_) rfl (by kernel_rfl) (by kernel_rfl) (by kernel_rfl) (fun _ _ _ h => h) (Or.inl ⟨by rfl, ?_⟩) (by assumption) ?_
              rotate_left
              · (intro w hSw; (try dsimp only at hSw); go_simp; try (with_reducible rfl))
              try simp only [Act.put, List.setIfInBounds_toArray, List.set_cons_zero, List.set_cons_succ]
              refine take_list (i := 20) (v := ?_) rfl (by kernel_rfl) (by kernel_rfl) (by kernel_rfl) (fun _ _ _ h => h) (Or.inl ⟨by rfl, ?_⟩) (by assumption) ?_
              rotate_left
              · (intro w hSw; (try dsimp only at hSw); go_simp; try (with_reducible rfl))
              try simp only [Act.put, List.setIfInBounds_toArray, List.set_cons_zero, List.set_cons_succ]
              refine take_list (i := 22) (v := ?_) rfl (by kernel_rfl) (by kernel_rfl) (by kernel_rfl) (fun _ _ _ h => h) (Or.inl ⟨by rfl, ?_⟩) (by assumption) ?_
              rotate_left
              · (intro w hSw; (try dsimp only at hSw); go_simp; try (with_reducible rfl))
              try simp only [Act.put, List.setIfInBounds_toArray, List.set_cons_zero, List.set_cons_succ]
              refine take_list (i := 23) (v := ?_) rfl (by kernel_rfl) (by kernel_rfl) (by kernel_rfl) (fun _ _ _ h => h) (Or.inl ⟨by rfl, ?_⟩) (by assumption) ?_
              rotate_left
              · (intro w hSw; (try dsimp only at hSw); go_simp; try (with_reducible rfl))
              try simp only [Act.put, List.setIfInBounds_toArray, List.set_cons_zero, List.set_cons_succ]
              refine wpAnyH_ready (rs := [21]) (by kernel_rfl) (by simp) ?_
              refine cons_list rfl (fun K hK => ?_) AllReadyH.nil
              go_simp
              (go_at_call 16; refine (CF.out _ hB13).mono ?_; rintro e w14 ⟨rfl, hB14⟩)
              refine hK.out _ _ (HC.out _ (by assumption)) (fun hHeld2 => ?_)
              clear hK K hHeld1
              try simp only [Act.put, List.setIfInBounds_toArray, List.set_cons_zero, List.set_cons_succ]
              refine wpAnyH_ready (rs := [24]) (by kernel_rfl) (by simp) ?_
              refine cons_list rfl (fun K hK => ?_) AllReadyH.nil
              go_simp
              (go_at_call 17; refine (CF2.out _ hB14).mono ?_; rintro e w15 ⟨rfl, hB15⟩)
              refine hK.out _ _ (HC.out _ (by assumption)) (fun hHeld3 => ?_)
              clear hK K hHeld2
              try simp only [Act.put, List.setIfInBounds_toArray, List.set_cons_zero, List.set_cons_succ]
              refine take_list (i := 25) (v := ?_) rfl (by kernel_rfl) (by kernel_rfl) (by kernel_rfl) (fun _ _ _ h => h) (Or.inl ⟨by rfl, ?_⟩) (by assumption) ?_
              rotate_left
              · (intro w hSw; (try dsimp only at hSw); go_simp; try (with_reducible rfl))
              try simp only [Act.put, List.setIfInBounds_toArray, List.set_cons_zero, List.set_cons_succ]
              refine take_list (i := 26) (v := ?_) rfl (by kernel_rfl) (by kernel_rfl) (by kernel_rfl) (fun _ _ _ h => h) (Or.inl ⟨by rfl, ?_⟩) (by assumption) ?_
              rotate_left
              · (intro w hSw; (try dsimp only at hSw); go_simp; try (with_reducible rfl))
              try simp only [Act.put, List.setIfInBounds_toArray, List.set_cons_zero, List.set_cons_succ]
              refine take_list (i := 27) (v := ?_) rfl (by kernel_rfl) (by kernel_rfl) (by kernel_rfl) (fun _ _ _ h => h) (Or.inl ⟨by rfl, ?_⟩) (by assumption) ?_
              rotate_left
              · (intro w hSw; (try dsimp only at hSw); go_simp; try (with_reducible rfl))
              try simp only [Act.put, List.setIfInBounds_toArray, List.set_cons_zero, List.set_cons_succ]
              refine take_list (i := 28) (v := ?_) rfl (by kernel_rfl) (by kernel_rfl) (by kernel_rfl) (fun _ _ _ h => h) (Or.inl ⟨by rfl, ?_⟩) (by assumption) ?_
              rotate_left
              · (intro w hSw; (try dsimp only at hSw); go_simp; try (with_reducible rfl))
              try simp only [Act.put, List.setIfInBounds_toArray, List.set_cons_zero, List.set_cons_succ]
              refine take_list (i := 29) (v := ?_) rfl (by kernel_rfl) (by kernel_rfl) (by kernel_rfl) (fun _ _ _ h => h) (Or.inl ⟨by rfl, ?_⟩) (by assumption) ?_
              rotate_left
              · (intro w hSw; (try dsimp only at hSw); go_simp; try (with_reducible rfl))
              try simp only [Act.put, List.setIfInBounds_toArray, List.set_cons_zero, List.set_cons_succ]
              refine take_list (i := 31) (v := ?_) rfl (by kernel_rfl) (by kernel_rfl) (by kernel_rfl) (fun _ _ _ h => h) (Or.inl ⟨by rfl, ?_⟩) (by assumption) ?_
              rotate_left
              · (intro w hSw; (try dsimp only at hSw); go_simp; try (with_reducible rfl))
              try simp only [Act.put, List.setIfInBounds_toArray, List.set_cons_zero, List.set_cons_succ]
              refine take_list (i := 32) (v := ?_) rfl (by kernel_rfl) (by kernel_rfl) (by kernel_rfl) (fun _ _ _ h => h) (Or.inl ⟨by rfl, ?_⟩) (by assumption) ?_
              rotate_left
              · (intro w hSw; (try dsimp only at hSw); go_simp; try (with_reducible rfl))
              try simp only [Act.put, List.setIfInBounds_toArray, List.set_cons_zero, List.set_cons_succ]
              refine wpAnyH_ready (rs := [30]) (by kernel_rfl) (by simp) ?_
              refine cons_list rfl (fun K hK => ?_) AllReadyH.nil
              go_simp
              (go_at_call 19; refine (CG.out _ hB15).mono ?_; rintro e w16 ⟨A9, c9, rfl, hr9, hB16⟩)
              refine hK.out _ _ (HC.out _ (by assumption)) (fun hHeld4 => ?_)
              clear hK K hHeld3
              try simp only [Act.put, List.setIfInBounds_toArray, List.set_cons_zero, List.set_cons_succ]
              refine wpAnyH_ready (rs := [33]) (by kernel_rfl) (by simp) ?_
              refine cons_list rfl (fun K hK => ?_) AllReadyH.nil
              go_simp
              (go_at_call 20; refine (CG2.out _ hB16).mono ?_; rintro e w17 ⟨A8, c8, rfl, hr8, hB17, hBB⟩; have hr9' := hr9.call hBB)
              refine hK.out _ _ (HC.out _ (by assumption)) (fun hHeld5 => ?_)
              clear hK K hHeld4
              try simp only [Act.put, List.setIfInBounds_toArray, List.set_cons_zero, List.set_cons_succ]
              refine wpAnyH_ready (rs := [34]) (by kernel_rfl) (by simp) ?_
              refine cons_list rfl (fun K hK => ?_) AllReadyH.nil
              go_simp
              (go_at_call 18; refine (CS.out A9 c9 A8 c8 _ hr9' hr8 hB17).mono ?_; rintro e w18 ⟨rfl, hB18⟩)
              refine hK.out _ _ (HC.out _ (by assumption)) (fun hHeld6 => ?_)
              clear hK K hHeld5
              try simp only [Act.put, List.setIfInBounds_toArray, List.set_cons_zero, List.set_cons_succ]
              refine take_list (i := 35) (v := ?_) rfl (by kernel_rfl) (by kernel_rfl) (by kernel_rfl) (fun _ _ _ h => h) (Or.inl ⟨by rfl, ?_⟩) (by assumption) ?_
              rotate_left
              · (intro w hSw; (try dsimp only at hSw); go_simp; try (with_reducible rfl))
              try simp only [Act.put, List.setIfInBounds_toArray, List.set_cons_zero, List.set_cons_succ]
              refine take_list (i := 36) (v := ?_) rfl (by kernel_rfl) (by kernel_rfl) (by kernel_rfl) (fun _ _ _ h => h) (Or.inl ⟨by rfl, ?_⟩) (by assumption) ?_
              rotate_left
              · (intro w hSw; (try dsimp only at hSw); go_simp; try (with_reducible rfl))
              try simp only [Act.put, List.setIfInBounds_toArray, List.set_cons_zero, List.set_cons_succ]
              refine wpAnyH_done (by kernel_rfl) ?_ _
              clear hHeld6
              have S18 := Lib.hid (S12.out.call hB18)
              have T18 := Lib.hid (T12.out.call hB18)
              have R18 := Lib.hid (R12.out.call hB18)
              clear hBd hB13 hB14 hB15 hB16 hB17 hB18 hBB hr9 hr8 hr9' hq1 hq2 hq3 hq4
              go_wp2
              go_roundw
              case rel => exact ⟨i + 1, ow'', L', A', c', M', D', d', by omega, by omega, by go_num, S18.out, T18.out, R18.out, HLM'.out, by omega⟩
              case measure => simp [intOf]; omega
          · have hx : (i < l1.length ∧ ¬ (i : Int) < 30) ∨ ¬ i < l1.length := by
              by_cases h1 : i < l1.length
              · exact .inl ⟨h1, fun h => hlt ⟨h1, h⟩⟩
              · exact .inr h1
            clear hlt
            have XA := Lib.hid (X3.out.call SY.out.base)
            have HFE := Lib.hid (find_eq TY.out.ok r)
            have HC : Hid (∀ wy, Below wr.heap.size wr wy → wy.cell? ⟨w.heap.size, 0, none⟩ = some (.int .i64 r.kind) ∧ wy.cell? ⟨w.heap.size, 1, none⟩ = some (.int .i64 r.cost) ∧ wy.cell? ⟨w.heap.size, 2, none⟩ = some (.slice A2 r.path.length c2)) := Lib.hid (fun wy hb => (XA.out.call hb).at_)
            have CF : Hid (∀ wy, Below wr.heap.size wr wy → Calls Tryd.prog 16 #[.pointer none, .agg #[.int .i64 r.kind, .int .i64 r.cost, .slice A2 r.path.length c2]] wy fun e w' => e = .returned (.int .i64 (findT (L.map (·.1)) r)) ∧ Below wr.heap.size wr w') := Lib.hid (fun wy hb =>
              (findN_any r A2 c2 (TY.out.call hb) (XA.out.call hb).rt ((SY.out.call hb).tab0 HT3.out)).mono fun e w' ⟨h1, h2⟩ => ⟨by rw [h1, HFE.out], since_trans hb h2⟩)
            have CF2 : Hid (∀ wy, Below wr.heap.size wr wy → Calls Tryd.prog 17 #[.pointer (some ⟨bs, 0, none⟩), .agg #[.int .i64 r.kind, .int .i64 r.cost, .slice A2 r.path.length c2]] wy fun e w' => e = .returned (.int .i64 (findT (L.map (·.1)) r)) ∧ Below wr.heap.size wr w') := Lib.hid (fun wy hb =>
              (rfind8_any r A2 c2 (RY.out.call hb) (XA.out.call hb).rt (by omega)).mono fun e w' ⟨h1, h2⟩ => ⟨by rw [h1, HLM.out], since_trans hb h2⟩)
            have CG : Hid (∀ wy, Below wr.heap.size wr wy → Calls Tryd.prog 19 #[.pointer none, .int .i64 n3] wy fun e w' => ∃ A9 c9, e = .returned (.agg #[.int .i64 (getT (L.map (·.1)) n3).kind, .int .i64 (getT (L.map (·.1)) n3).cost, .slice A9 (getT (L.map (·.1)) n3).path.length c9]) ∧ RtR w' w'.heap.size (getT (L.map (·.1)) n3) A9 c9 ∧ Below wr.heap.size wr w') := Lib.hid (fun wy hb =>
              (getN_any n3 (TY.out.call hb)).mono fun e w' ⟨A9, c9, h1, h2, h3⟩ => ⟨A9, c9, h1, h2.rt _ _, since_trans hb h3⟩)
            have CG2 : Hid (∀ wy, Below wr.heap.size wr wy → Calls Tryd.prog 20 #[.pointer (some ⟨bs, 0, none⟩), .int .i64 n3] wy fun e w' => ∃ A8 c8, e = .returned (.agg #[.int .i64 (getT (L.map (·.1)) n3).kind, .int .i64 (getT (L.map (·.1)) n3).cost, .slice A8 (getT (L.map (·.1)) n3).path.length c8]) ∧ RtR w' w'.heap.size (getT (L.map (·.1)) n3) A8 c8 ∧ Below wr.heap.size wr w' ∧ Below wy.heap.size wy w') := Lib.hid (fun wy hb =>
              (rget8_any n3 (RY.out.call hb) (by omega)).mono fun e w' ⟨A8, c8, h1, h2, h3⟩ => ⟨A8, c8, by rw [h1, HLM.out]; rfl, by rw [HLM.out] at h2; exact h2, since_trans hb h3, h3⟩)
            generalize findT (L.map (·.1)) r = ff at *
            generalize getT (L.map (·.1)) n3 = gi at *
            have CS : Hid (∀ A9 c9 A8 c8 wy, RtR wy wy.heap.size gi A9 c9 → RtR wy wy.heap.size gi A8 c8 → Below wr.heap.size wr wy → Calls Tryd.prog 18 #[.agg #[.int .i64 gi.kind, .int .i64 gi.cost, .slice A9 gi.path.length c9], .agg #[.int .i64 gi.kind, .int .i64 gi.cost, .slice A8 gi.path.length c8]] wy fun e w' => e = .returned (.bool true) ∧ Below wr.heap.size wr w') := Lib.hid (fun A9 c9 A8 c8 wy h9 h8 hb =>
              (refSame_any gi gi A9 A8 c9 c8 wy h9 h8).mono fun e w' ⟨h1, h2⟩ => ⟨by rw [h1]; simp, since_trans hb h2⟩)
            rcases hx with ⟨h1, h2⟩ | h1 <;> (
              go_upto_region 20 with fail
              clear h1
              have hq4 : (ff != ff) = false := by simp
              have hBd : Below wr.heap.size wr wr.drew := below_drew (Below.refl _ _)
              refine wp_region_held_drew (S := (fun wy => wy.cell? ⟨w.heap.size, 0, none⟩ = some (.int .i64 r.kind) ∧ wy.cell? ⟨w.heap.size, 1, none⟩ = some (.int .i64 r.cost) ∧ wy.cell? ⟨w.heap.size, 2, none⟩ = some (.slice A2 r.path.length c2))) (by kernel_rfl) (HC.out _ hBd) (fun hHeld0 => ?_)
              refine take_list (i := 0) (v := ?_) rfl (by kernel_rfl) (by kernel_rfl) (by kernel_rfl) (fun _ _ _ h => h) (Or.inl ⟨by rfl, ?_⟩) (by assumption) ?_
              rotate_left
              · (intro w hSw; (try dsimp only at hSw); go_simp; try (with_reducible rfl))
              try simp only [Act.put, List.setIfInBounds_toArray, List.set_cons_zero, List.set_cons_succ]
              refine take_list (i := 1) (v := ?_) rfl (by kernel_rfl) (by kernel_rfl) (by kernel_rfl) (fun _ _ _ h => h) (Or.inl ⟨by rfl, ?_⟩) (by assumption) ?_
              rotate_left
              · (intro w hSw; (try dsimp only at hSw); go_simp; try (with_reducible rfl))
              try simp only [Act.put, List.setIfInBounds_toArray, List.set_cons_zero, List.set_cons_succ]
              refine take_list (i := 3) (v := ?_) rfl (by kernel_rfl) (by kernel_rfl) (by kernel_rfl) (fun _ _ _ h => h) (Or.inl ⟨by rfl, ?_⟩) (by assumption) ?_
              rotate_left
              · (intro w hSw; (try dsimp only at hSw); go_simp; try (with_reducible rfl))
              try simp only [Act.put, List.setIfInBounds_toArray, List.set_cons_zero, List.set_cons_succ]
              refine take_list (i := 4) (v := ?_) rfl (by kernel_rfl) (by kernel_rfl) (by kernel_rfl) (fun _ _ _ h => h) (Or.inl ⟨by rfl, ?_⟩) (by assumption) ?_
              rotate_left
              · (intro w hSw; (try dsimp only at hSw); go_simp; try (with_reducible rfl))
              try simp only [Act.put, List.setIfInBounds_toArray, List.set_cons_zero, List.set_cons_succ]
              refine wpAnyH_ready (rs := [2]) (by kernel_rfl) (by simp) ?_
              refine cons_list rfl (fun K hK => ?_) AllReadyH.nil
              go_simp
              (go_at_call 16; refine (CF.out _ hBd).mono ?_; rintro e w14 ⟨rfl, hB14⟩)
              refine hK.out _ _ (HC.out _ (by assumption)) (fun hHeld1 => ?_)
              clear hK K hHeld0
              try simp only [Act.put, List.setIfInBounds_toArray, List.set_cons_zero, List.set_cons_succ]
              refine wpAnyH_ready (rs := [5]) (by kernel_rfl) (by simp) ?_
              refine cons_list rfl (fun K hK => ?_) AllReadyH.nil
              go_simp
              (go_at_call 17; refine (CF2.out _ hB14).mono ?_; rintro e w15 ⟨rfl, hB15⟩)
              refine hK.out _ _ (HC.out _ (by assumption)) (fun hHeld2 => ?_)
              clear hK K hHeld1
              try simp only [Act.put, List.setIfInBounds_toArray, List.set_cons_zero, List.set_cons_succ]
              refine take_list (i := 6) (v := ?_) rfl (by kernel_rfl) (by kernel_rfl) (by kernel_rfl) (fun _ _ _ h => h) (Or.inl ⟨by rfl, ?_⟩) (by assumption) ?_
              rotate_left
              · (intro w hSw; (try dsimp only at hSw); go_simp; try (with_reducible rfl))
              try simp only [Act.put, List.setIfInBounds_toArray, List.set_cons_zero, List.set_cons_succ]
              refine take_list (i := 7) (v := ?_) rfl (by kernel_rfl) (by kernel_rfl) (by kernel_rfl) (fun _ _ _ h => h) (Or.inl ⟨by rfl, ?_⟩) (by assumption) ?_
              rotate_left
              · (intro w hSw; (try dsimp only at hSw); go_simp; try (with_reducible rfl))
              try simp only [Act.put, List.setIfInBounds_toArray, List.set_cons_zero, List.set_cons_succ]
              refine take_list (i := 8) (v := ?_) rfl (by kernel_rfl) (by kernel_rfl) (by kernel_rfl) (fun _ _ _ h => h) (Or.inl ⟨by rfl, ?_⟩) (by assumption) ?_
              rotate_left
              · (intro w hSw; (try dsimp only at hSw); go_simp; try (with_reducible rfl))
              try simp only [Act.put, List.setIfInBounds_toArray, List.set_cons_zero, List.set_cons_succ]
              refine take_list (i := 9) (v := ?_) rfl (by kernel_rfl) (by kernel_rfl) (by kernel_rfl) (fun _ _ _ h => h) (Or.inl ⟨by rfl, ?_⟩) (by assumption) ?_
              rotate_left
              · (intro w hSw; (try dsimp only at hSw); go_simp; try (with_reducible rfl))
              try simp only [Act.put, List.setIfInBounds_toArray, List.set_cons_zero, List.set_cons_succ]
              refine take_list (i := 11) (v := ?_) rfl (by kernel_rfl) (by kernel_rfl) (by kernel_rfl) (fun _ _ _ h => h) (Or.inl ⟨by rfl, ?_⟩) (by assumption) ?_
              rotate_left
              · (intro w hSw; (try dsimp only at hSw); go_simp; try (with_reducible rfl))
              try simp only [Act.put, List.setIfInBounds_toArray, List.set_cons_zero, List.set_cons_succ]
              refine take_list (i := 12) (v := ?_) rfl (by kernel_rfl) (by kernel_rfl) (by kernel_rfl) (fun _ _ _ h => h) (Or.inl ⟨by rfl, ?_⟩) (by assumption) ?_
              rotate_left
              · (intro w hSw; (try dsimp only at hSw); go_simp; try (with_reducible rfl))
              try simp only [Act.put, List.setIfInBounds_toArray, List.set_cons_zero, List.set_cons_succ]
              refine wpAnyH_ready (rs := [10]) (by kernel_rfl) (by simp) ?_
              refine cons_list rfl (fun K hK => ?_) AllReadyH.nil
              go_simp
              (go_at_call 19; refine (CG.out _ hB15).mono ?_; rintro e w16 ⟨A9, c9, rfl, hr9, hB16⟩)
              refine hK.out _ _ (HC.out _ (by assumption)) (fun hHeld3 => ?_)
              clear hK K hHeld2
              try simp only [Act.put, List.setIfInBounds_toArray, List.set_cons_zero, List.set_cons_succ]
              refine wpAnyH_ready (rs := [13]) (by kernel_rfl) (by simp) ?_
              refine cons_list rfl (fun K hK => ?_) AllReadyH.nil
              go_simp
              (go_at_call 20; refine (CG2.out _ hB16).mono ?_; rintro e w17 ⟨A8, c8, rfl, hr8, hB17, hBB⟩; have hr9' := hr9.call hBB)
              refine hK.out _ _ (HC.out _ (by assumption)) (fun hHeld4 => ?_)
              clear hK K hHeld3
              try simp only [Act.put, List.setIfInBounds_toArray, List.set_cons_zero, List.set_cons_succ]
              refine wpAnyH_ready (rs := [14]) (by kernel_rfl) (by simp) ?_
              refine cons_list rfl (fun K hK => ?_) AllReadyH.nil
              go_simp
              (go_at_call 18; refine (CS.out A9 c9 A8 c8 _ hr9' hr8 hB17).mono ?_; rintro e w18 ⟨rfl, hB18⟩)
              refine hK.out _ _ (HC.out _ (by assumption)) (fun hHeld5 => ?_)
              clear hK K hHeld4
              try simp only [Act.put, List.setIfInBounds_toArray, List.set_cons_zero, List.set_cons_succ]
              refine take_list (i := 15) (v := ?_) rfl (by kernel_rfl) (by kernel_rfl) (by kernel_rfl) (fun _ _ _ h => h) (Or.inl ⟨by rfl, ?_⟩) (by assumption) ?_
              rotate_left
              · (intro w hSw; (try dsimp only at hSw); go_simp; try (with_reducible rfl))
              try simp only [Act.put, List.setIfInBounds_toArray, List.set_cons_zero, List.set_cons_succ]
              refine take_list (i := 16) (v := ?_) rfl (by kernel_rfl) (by kernel_rfl) (by kernel_rfl) (fun _ _ _ h => h) (Or.inl ⟨by rfl, ?_⟩) (by assumption) ?_
              rotate_left
              · (intro w hSw; (try dsimp only at hSw); go_simp; try (with_reducible rfl))
              try simp only [Act.put, List.setIfInBounds_toArray, List.set_cons_zero, List.set_cons_succ]
              refine wpAnyH_done (by kernel_rfl) ?_ _
              clear hHeld5
              have S18 := Lib.hid (SY.out.call hB18)
              clear hBd hB14 hB15 hB16 hB17 hB18 hBB hr9 hr8 hr9' hq4
              go_wp2
              go_roundw
              case rel => exact ⟨k + 1, ow, by omega, by go_num, S18.out⟩
              case measure => simp [intOf]; omega)
    · go_wp2
      go_ret
      exact ⟨rfl, since_trans B3.out SX.out.base⟩
end Go.Proofs.YtjdnkbpclhldfaaDoor

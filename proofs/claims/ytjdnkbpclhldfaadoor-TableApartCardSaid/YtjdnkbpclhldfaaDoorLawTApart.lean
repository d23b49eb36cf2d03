/- The walk of backstaylaw08.TableApart. -/
import Derived.Test.YtjdnkbpclhldfaaDoorLawTOrder
namespace Go.Proofs.YtjdnkbpclhldfaaDoor
set_option linter.unusedSimpArgs false
set_option linter.unusedVariables false
open Go.RowKit

/-- What Add told is where the route stands. -/
theorem add_get {L : List Rt} {r : Rt} (hr : RtOk r) (hm : (L.length : Int) < 50) : getT (addGL 50 L r) (addGN 50 L r) = r := by
  obtain ⟨-, h | h⟩ := add_ok hr hm
  · obtain ⟨h1, h2, h3, -⟩ := h
    rw [h2, h3]
    unfold getT
    rw [if_pos (by omega), Int.toNat_natCast, idx_at h1]; rfl
  · obtain ⟨-, h2, h3, -⟩ := h
    rw [h2, h3]
    unfold getT
    rw [if_pos (by omega), Int.toNat_natCast]; simp

/-- A cell of what is owned is written. -/
theorem Own.putA {w : World} {B s n c : Nat} {e : TypeId} {g off : Nat} {xs : List Value} (h : Own w B e s (some ⟨g, off, none⟩) n c xs) (hn : 0 < n) {j : Nat} (hj : j < xs.length) (v : Value) :
    Own (w.setCell ⟨g, off + j, none⟩ v) B e s (some ⟨g, off, none⟩) n c (xs.set j v) := by
  obtain ⟨h1, h2, h3, h4, hb, h5⟩ := h
  refine ⟨by rw [List.length_set]; exact h1, h2, h3, h4, hb, fun hc => ?_⟩
  obtain ⟨g', off', cur, e', hh, hs, hx⟩ := h5 hc
  injection e' with e'
  injection e' with e1 e2
  subst e1 e2
  refine ⟨g, off, cur.setIfInBounds (off + j) v, rfl, heap_setCell_same w g (off + j) cur _ v hh, by simpa using hs, fun i u hu => ?_⟩
  by_cases e : i = j
  · subst e
    rw [List.getElem?_set_self hj] at hu
    injection hu with hu
    have : off + i < cur.size := by
      have := hx i _ (List.getElem?_eq_getElem hj)
      exact (Array.getElem?_eq_some_iff.1 this).1
    rw [← hu]; simp [this]
  · rw [List.getElem?_set_ne (Ne.symm e)] at hu
    rw [Array.getElem?_setIfInBounds_ne (by omega)]
    exact hx i u hu
/-- A list of one's own, in the tag 5, and where it lies. -/
structure XB (w : World) (ow : Nat → Nat) (bx : Nat) (k co : Int) (n : Nat) (A : Option Addr) (c : Nat) (xs : List Value) : Prop where
  box : w.heap[bx]? = some (.cells #[.int .i64 k, .int .i64 co, .slice A n c] 25 (0, 0))
  own : 0 < n → Own w 0 3 1 A n c xs
  tag : 0 < n → ∀ g, blk A = some g → ow g = 5
theorem XB.at2 {w : World} {ow : Nat → Nat} {bx : Nat} {k co : Int} {n : Nat} {A : Option Addr} {c : Nat} {xs : List Value} (a : XB w ow bx k co n A c xs) : w.cell? ⟨bx, 2, none⟩ = some (.slice A n c) := cell_of_row w _ 2 _ _ _ a.box
theorem XB.step {w : World} {ow : Nat → Nat} {bx : Nat} {k co : Int} {n : Nat} {A : Option Addr} {c : Nat} {xs : List Value} (a : XB w ow bx k co n A c xs) {j : Nat} (hj : j < n) (v : Value) :
    ∃ g off u, A = some ⟨g, off, none⟩ ∧ w.cell? ⟨g, off + j, none⟩ = some u ∧ w.frozen? ⟨g, off + j, none⟩ = false ∧ ow g = 5 ∧ XB (w.setCell ⟨g, off + j, none⟩ v) ow bx k co n A c (xs.set j v) := by
  have hn : 0 < n := by omega
  have ho := a.own hn
  obtain ⟨g, off, cur, e, hh, hs, hx⟩ := ho.2.2.2.2.2 (by have := ho.2.1; omega)
  have hl : xs.length = n := by have := ho.1; omega
  have hjx : xs[j]? = some xs[j] := List.getElem?_eq_getElem (by omega)
  have hg5 := a.tag hn g (by rw [e]; rfl)
  refine ⟨g, off, xs[j], e, ?_, frozen_of_row w g (off + j) _ _ hh, hg5, ⟨?_, fun _ => ?_, a.tag⟩⟩
  · rw [cell_of_row w g (off + j) _ _ _ hh]; exact hx j _ hjx
  · rw [Below.heap_setCell _ _ _ _ (fun e' => by have h1 := a.box; rw [show bx = g from e', hh] at h1; injection h1 with h1; injection h1 with _ h2; exact absurd h2 (by decide))]
    exact a.box
  · rw [e] at ho ⊢
    exact ho.putA hn (by omega) v

attribute [local go_sem ↓] Go.wp_at_zero Go.wp_at_succ
set_option maxRecDepth 100000 in
set_option maxHeartbeats 8000000 in
theorem tableApart_walk (a0 : Option Addr) (c0 : Nat) (l0 : List (List Int)) (V0 : List (Option Addr × Nat)) (n1 : Int) (w : World) (h0 : RowsIn w a0 c0 l0 V0) (k1 : In64 n1) (ht : Tab w) :
    Calls Tryd.prog 7 #[.slice a0 l0.length c0, .int .i64 n1] w fun e w' => e = .returned (.bool true) ∧ Below w.heap.size w w' := by
  have HT := Lib.hid ht
  have H0 := Lib.hid h0
  have H30 : Hid ((3 : Nat) ≠ 0) := Lib.hid (by decide)
  have H40 : Hid ((4 : Nat) ≠ 0) := Lib.hid (by decide)
  have H39 : Hid ((3 : Nat) ≠ 9) := Lib.hid (by decide)
  have H49 : Hid ((4 : Nat) ≠ 9) := Lib.hid (by decide)
  have H34 : Hid ((3 : Nat) ≠ 4) := Lib.hid (by decide)
  have H5 : Hid ((5 : Nat) ≠ 0 ∧ (5 : Nat) ≠ 3 ∧ (5 : Nat) ≠ 4 ∧ (5 : Nat) ≠ 9) := Lib.hid (by decide)
  have HN : Hid (∀ (wy : World) (ow : Nat → Nat), RtT wy ow 3 rtNone none 0) := Lib.hid (fun wy ow => ⟨⟨Rd.nil _, Nat.le_refl _, by simp [maxLen]⟩, fun h => absurd rfl h⟩)
  have hl0 : l0.length ≤ maxLen := Nat.le_trans h0.le h0.max
  unfold maxLen at hl0
  clear ht h0 k1
  go_enter Tryd.func7, Tryd.ntmps7
  go_wp2_with fail
  refine (awake8 w HT.out).mono ?_
  rintro e w1 ⟨rfl, hb1⟩
  have S1 := Lib.hid ((TS.begin w).call hb1)
  clear hb1
  go_wp2_with fail
  refine (new8_any 50 (by decide) (by decide) w1 (fun _ => 9) 3 H30.out (S1.out.tab0 HT.out)).mono ?_
  rintro e w2 ⟨bt, bm, L, A, c, ow, rfl, hL, hag, htab, hb2⟩
  have T2 := Lib.hid htab
  have S2 := Lib.hid ((S1.out.retag hag).call hb2)
  have HL := Lib.hid hL
  clear hL hag htab hb2
  go_wp2_with fail
  refine (new8_any 50 (by decide) (by decide) w2 ow 4 H40.out (S2.out.tab0 HT.out)).mono ?_
  rintro e w3 ⟨bu, bn, M, B, d, ow3, rfl, hM, hag3, htab3, hb3⟩
  have U3 := Lib.hid htab3
  have T3 := Lib.hid ((T2.out.retag hag3).call hb3)
  have S3 := Lib.hid ((S2.out.retag hag3).call hb3)
  have HM := Lib.hid hM
  have hM1 : M.length = 1 := by have := congrArg List.length hM; simpa using this
  have HM1 := Lib.hid hM1
  clear hM hag3 htab3 hb3 hM1
  go_wp2_with fail
  go_loopw [8] (fun si wx => ∃ (i : Nat) (ow : Nat → Nat) (L : List RtZ) (A : Option Addr) (c : Nat), i ≤ l0.length ∧ i ≤ 20 ∧ si = .int .i64 i ∧ TS w wx ow ∧ TabT wx ow 3 bt bm 50 L A c ∧ TabT wx ow 4 bu bn 50 M B d ∧ L.length ≤ i + 1) (fun si _ => 20 - (intOf si).toNat)
  case atStart => exact ⟨0, ow3, L, A, c, Nat.zero_le _, by omega, rfl, S3.out, T3.out, U3.out, by have := congrArg List.length HL.out; simp at this; omega⟩
  case round =>
    obtain ⟨i, ow, L, A, c, hi, hi20, rfl, hS, hT, hU, hLi⟩ := hrel
    have SX := Lib.hid hS
    have TX := Lib.hid hT
    have UX := Lib.hid hU
    have hL31 : L.length ≤ 31 := by omega
    clear hS hT hU
    by_cases hlt : i < l0.length ∧ (i : Int) < 20
    · obtain ⟨hlt, h20⟩ := hlt
      have RX := Lib.hid (H0.out.call SX.out.base)
      obtain ⟨z, hz⟩ : ∃ z, (l0.zip V0)[i]? = some z := ⟨_, List.getElem?_eq_getElem (by have := RX.out.len; rw [List.length_zip]; omega)⟩
      obtain ⟨b, o, rfl, hb, hc⟩ := RX.out.row.one (i := i) (x := rowV z) (by rw [List.getElem?_map, hz]; rfl)
      have IR := Lib.hid (RX.out.each z (List.mem_of_getElem? hz))
      have hi0 : (0 : Int) ≤ (i : Int) := by omega
      unfold rowV at hc
      clear hz hb
      go_wp2_with fail
      refine (route_any z.1 z.2.1 z.2.2 _ IR.out.rd IR.out.in64 IR.out.len).mono ?_
      rintro e w4 ⟨A3, c3, rfl, ho3, hb3⟩
      have HOK := Lib.hid (routeR_ok z.1)
      generalize routeR z.1 = r at *
      obtain ⟨ow1, ho1, ho2⟩ := tag_new wr ow 0
      have hbo : Below w4.heap.size w4 (w4.alloc (.cells #[.int .i64 r.kind, .int .i64 r.cost, .slice A3 r.path.length c3] 25)) := (Below.refl _ _).alloc (Nat.le_refl _) _
      have S4 := Lib.hid (((SX.out.retag ho1).call hb3).call hbo)
      have T4 := Lib.hid (((TX.out.retag ho1).call hb3).call hbo)
      have U4 := Lib.hid (((UX.out.retag ho1).call hb3).call hbo)
      have R4 := Lib.hid (RB.new ho2 hb3.size (.inl ho3))
      have HGT := Lib.hid (add_get (L := L.map (·.1)) HOK.out (by rw [List.length_map]; omega))
      have hsh := HOK.out.prints.2.2
      clear hbo ho1 ho2 ho3 hb3 hc
      unfold rtV
      go_upto_region 8 with fail
      generalize (w4.alloc (.cells #[.int .i64 r.kind, .int .i64 r.cost, .slice A3 r.path.length c3] 25)) = w5 at *
      generalize w4.heap.size = bo at *
      obtain ⟨b0, b1, b2⟩ := R4.out.at_
      go_wp2_with fail
      refine (add8_any r A3 c3 T4.out H30.out (R4.out.rtT H30.out) (S4.out.tab HT.out H39.out) (by omega)).mono ?_
      rintro e w6 hp
      obtain ⟨L', A', c', ow', rfl, hL', hag, htab, hch, hs⟩ := hp.ts S4.out H39.out
      have T6 := Lib.hid htab
      have U6 := Lib.hid (U4.out.step hag hch H34.out H30.out)
      have R6 := Lib.hid (R4.out.step hag hch H30.out)
      have S6 := Lib.hid hs
      rw [← hL'] at HGT
      have hL'l : L'.length ≤ i + 1 + 1 := by
        have h1 := congrArg List.length hL'
        rw [List.length_map] at h1
        obtain ⟨-, h | h⟩ := add_ok (most := 50) (L := L.map (·.1)) HOK.out (by rw [List.length_map]; omega)
        · rw [h.2.1, List.length_map] at h1; omega
        · rw [h.2.1, List.length_append, List.length_map] at h1; simp at h1; omega
      generalize addGN 50 (L.map (·.1)) r = kn at *
      clear hp htab hs hag hch hL' b0 b1 b2
      go_wp2_with fail
      refine (get8_any kn T6.out).mono ?_
      rintro e w7 ⟨A7, c7, rfl, ho7, hb7⟩
      rw [HGT.out] at ho7 ⊢
      obtain ⟨ow5, ho1, ho2⟩ := tag_new w6 ow' 5
      have hbx : Below w7.heap.size w7 (w7.alloc (.cells #[.int .i64 r.kind, .int .i64 r.cost, .slice A7 r.path.length c7] 25)) := (Below.refl _ _).alloc (Nat.le_refl _) _
      have S7 := Lib.hid (((S6.out.retag ho1).call hb7).call hbx)
      have T7 := Lib.hid (((T6.out.retag ho1).call hb7).call hbx)
      have U7 := Lib.hid (((U6.out.retag ho1).call hb7).call hbx)
      have R7 := Lib.hid (((R6.out.retag ho1).call hb7).call hbx)
      have X7 : Hid (XB (w7.alloc (.cells #[.int .i64 r.kind, .int .i64 r.cost, .slice A7 r.path.length c7] 25)) ow5 w7.heap.size r.kind r.cost r.path.length A7 c7 (ints r.path)) := Lib.hid ⟨heap_alloc_new _ _, fun hn => by
        rcases ho7 with h | ⟨h, -⟩
        · exact (h.alloc _).more (Nat.zero_le _)
        · rw [h] at hn; simp at hn, fun hn g hg => by
        rcases ho7 with h | ⟨h, -⟩
        · exact ho2 g (h.from_ g hg)
        · rw [h] at hn; simp at hn⟩
      clear hbx ho1 ho2 ho7 hb7
      unfold rtV
      go_upto_region 10 with fail
      generalize (w7.alloc (.cells #[.int .i64 r.kind, .int .i64 r.cost, .slice A7 r.path.length c7] 25)) = w8 at *
      generalize w7.heap.size = bx at *
      go_wp2_with fail
      go_loopw [13] (fun sj wx => ∃ (j : Nat) (xs : List Value), j ≤ r.path.length ∧ sj = .int .i64 j ∧ TS w wx ow5 ∧ TabT wx ow5 3 bt bm 50 L' A' c' ∧ TabT wx ow5 4 bu bn 50 M B d ∧ RB wx ow5 bo r A3 c3 ∧ XB wx ow5 bx r.kind r.cost r.path.length A7 c7 xs) (fun sj _ => r.path.length - (intOf sj).toNat)
      case atStart => exact ⟨0, _, Nat.zero_le _, rfl, S7.out, T7.out, U7.out, R7.out, X7.out⟩
      case round =>
        obtain ⟨j, xs, hj, rfl, hS, hT, hU, hR, hX⟩ := hrel
        have S8 := Lib.hid hS
        have T8 := Lib.hid hT
        have U8 := Lib.hid hU
        have R8 := Lib.hid hR
        have X8 := Lib.hid hX
        clear hS hT hU hR hX
        have x2 := X8.out.at2
        by_cases hlj : j < r.path.length
        · obtain ⟨g, off, u, e, q0, q1, hg5, hX⟩ := X8.out.step hlj (.int .i64 n1)
          subst e
          have hch : Chg ow5 5 wr (wr.setCell ⟨g, off + j, none⟩ (.int .i64 n1)) := Chg.setCell (q := ⟨g, off + j, none⟩) hg5 _
          have S9 := Lib.hid (S8.out.chg hch H5.out.2.2.2)
          have T9 := Lib.hid (T8.out.chg hch H5.out.2.1 H5.out.1)
          have U9 := Lib.hid (U8.out.chg hch H5.out.2.2.1 H5.out.1)
          have R9 := Lib.hid (R8.out.chg hch H5.out.1)
          have X9 := Lib.hid hX
          have hj0 : (0 : Int) ≤ (j : Int) := by omega
          have hlj' : (j : Int) < (r.path.length : Int) := by omega
          clear hX hch hg5
          go_wp2
          go_roundw
          case rel => exact ⟨j + 1, _, by omega, by go_num, S9.out, T9.out, U9.out, R9.out, X9.out⟩
          case measure => simp [intOf]; omega
        · go_upto_region 14 with fail
          clear x2 hlj
          have HC : Hid (∀ wy, Below wr.heap.size wr wy → wy.cell? ⟨bo, 0, none⟩ = some (.int .i64 r.kind) ∧ wy.cell? ⟨bo, 1, none⟩ = some (.int .i64 r.cost) ∧ wy.cell? ⟨bo, 2, none⟩ = some (.slice A3 r.path.length c3)) := Lib.hid (fun wy hb => (R8.out.call hb).at_)
          have CG : Hid (∀ wy, Below wr.heap.size wr wy → Calls Tryd.prog 19 #[.pointer (some ⟨bt, 0, none⟩), .int .i64 kn] wy fun e w' => ∃ A9 c9, e = .returned (.agg #[.int .i64 r.kind, .int .i64 r.cost, .slice A9 r.path.length c9]) ∧ RtR w' w'.heap.size r A9 c9 ∧ Below wr.heap.size wr w') := Lib.hid (fun wy hb =>
            (get8_any kn (T8.out.call hb)).mono fun e w' ⟨A9, c9, h1, h2, h3⟩ => ⟨A9, c9, by rw [h1, HGT.out]; rfl, by rw [HGT.out] at h2; exact h2.rt _ _, since_trans hb h3⟩)
          have CS : Hid (∀ A9 c9 wy, RtR wy wy.heap.size r A9 c9 → Below wr.heap.size wr wy → Calls Tryd.prog 18 #[.agg #[.int .i64 r.kind, .int .i64 r.cost, .slice A9 r.path.length c9], .agg #[.int .i64 r.kind, .int .i64 r.cost, .slice A3 r.path.length c3]] wy fun e w' => e = .returned (.bool true) ∧ Below wr.heap.size wr w') := Lib.hid (fun A9 c9 wy hr hb =>
            (refSame_any r r A9 A3 c9 c3 wy hr ((R8.out.call hb).rtT H30.out).1).mono fun e w' ⟨h1, h2⟩ => ⟨by rw [h1]; simp, since_trans hb h2⟩)
          have CZ : Hid (∀ wy, Below wr.heap.size wr wy → Calls Tryd.prog 15 #[.pointer (some ⟨bu, 0, none⟩)] wy fun e w' => e = .returned (.int .i64 1) ∧ Below wr.heap.size wr w') := Lib.hid (fun wy hb =>
            (size8_any (U8.out.call hb)).mono fun e w' ⟨h1, h2⟩ => ⟨by rw [h1, HM1.out]; rfl, since_trans hb h2⟩)
          have hBd : Below wr.heap.size wr wr.drew := below_drew (Below.refl _ _)
          refine wp_region_held_drew (S := (fun wy => wy.cell? ⟨bo, 0, none⟩ = some (.int .i64 r.kind) ∧ wy.cell? ⟨bo, 1, none⟩ = some (.int .i64 r.cost) ∧ wy.cell? ⟨bo, 2, none⟩ = some (.slice A3 r.path.length c3))) (by kernel_rfl) (HC.out _ hBd) (fun hHeld0 => ?_)
          refine take_list (i := 0) (v := ?_) rfl (by kernel_rfl) (by kernel_rfl) (by kernel_rfl) (fun _ _ _ h => h) (Or.inl ⟨by rfl, ?_⟩) (by assumption) ?_
          rotate_left
          · (intro w hSw; (try dsimp only at hSw); go_simp; try (with_reducible rfl))
          try simp only [Act.put, List.setIfInBounds_toArray, List.set_cons_zero, List.set_cons_succ]
          refine take_list (i := 1) (v := ?_) rfl (by kernel_rfl) (by kernel_rfl) (by kernel_rfl) (fun _ _ _ h => h) (Or.inl ⟨by rfl, ?_⟩) (by assumption) ?_
          rotate_left
          · (intro w hSw; (try dsimp only at hSw); go_simp; try (with_reducible rfl))
          try simp only [Act.put, List.setIfInBounds_toArray, List.set_cons_zero, List.set_cons_succ]
          refine take_list (i := 3) (v := ?_) rfl (by kernel_rfl) (by kernel_rfl) (by kernel_rfl) (fun _ _ _ h => h) (Or.inl ⟨by rfl, ?_⟩) (by assumption) ?_
          rotate_left
          · (intro w hSw; (try dsimp only at hSw); go_simp; try (with_reducible rfl))
          try simp only [Act.put, List.setIfInBounds_toArray, List.set_cons_zero, List.set_cons_succ]
          refine wpAnyH_ready (rs := [2]) (by kernel_rfl) (by simp) ?_
          refine cons_list rfl (fun K hK => ?_) AllReadyH.nil
          go_simp
          (go_at_call 19; refine (CG.out _ hBd).mono ?_; rintro e w9 ⟨A9, c9, rfl, hr9, hB9⟩)
          refine hK.out _ _ (HC.out _ (by assumption)) (fun hHeld1 => ?_)
          clear hK K hHeld0
          try simp only [Act.put, List.setIfInBounds_toArray, List.set_cons_zero, List.set_cons_succ]
          refine wpAnyH_ready (rs := [4]) (by kernel_rfl) (by simp) ?_
          refine cons_list rfl (fun K hK => ?_) AllReadyH.nil
          go_simp
          (go_at_call 18; refine (CS.out A9 c9 _ hr9 hB9).mono ?_; rintro e w10 ⟨rfl, hB10⟩)
          refine hK.out _ _ (HC.out _ (by assumption)) (fun hHeld2 => ?_)
          clear hK K hHeld1
          try simp only [Act.put, List.setIfInBounds_toArray, List.set_cons_zero, List.set_cons_succ]
          refine take_list (i := 5) (v := ?_) rfl (by kernel_rfl) (by kernel_rfl) (by kernel_rfl) (fun _ _ _ h => h) (Or.inl ⟨by rfl, ?_⟩) (by assumption) ?_
          rotate_left
          · (intro w hSw; (try dsimp only at hSw); go_simp; try (with_reducible rfl))
          try simp only [Act.put, List.setIfInBounds_toArray, List.set_cons_zero, List.set_cons_succ]
          refine take_list (i := 6) (v := ?_) rfl (by kernel_rfl) (by kernel_rfl) (by kernel_rfl) (fun _ _ _ h => h) (Or.inl ⟨by rfl, ?_⟩) (by assumption) ?_
          rotate_left
          · (intro w hSw; (try dsimp only at hSw); go_simp; try (with_reducible rfl))
          try simp only [Act.put, List.setIfInBounds_toArray, List.set_cons_zero, List.set_cons_succ]
          refine take_list (i := 7) (v := ?_) rfl (by kernel_rfl) (by kernel_rfl) (by kernel_rfl) (fun _ _ _ h => h) (Or.inl ⟨by rfl, ?_⟩) (by assumption) ?_
          rotate_left
          · (intro w hSw; (try dsimp only at hSw); go_simp; try (with_reducible rfl))
          try simp only [Act.put, List.setIfInBounds_toArray, List.set_cons_zero, List.set_cons_succ]
          refine wpAnyH_ready (rs := [8]) (by kernel_rfl) (by simp) ?_
          refine cons_list rfl (fun K hK => ?_) AllReadyH.nil
          go_simp
          (go_at_call 15; refine (CZ.out _ hB10).mono ?_; rintro e w11 ⟨rfl, hB11⟩)
          refine hK.out _ _ (HC.out _ (by assumption)) (fun hHeld3 => ?_)
          clear hK K hHeld2
          try simp only [Act.put, List.setIfInBounds_toArray, List.set_cons_zero, List.set_cons_succ]
          refine take_list (i := 9) (v := ?_) rfl (by kernel_rfl) (by kernel_rfl) (by kernel_rfl) (fun _ _ _ h => h) (Or.inl ⟨by rfl, ?_⟩) (by assumption) ?_
          rotate_left
          · (intro w hSw; (try dsimp only at hSw); go_simp; try (with_reducible rfl))
          try simp only [Act.put, List.setIfInBounds_toArray, List.set_cons_zero, List.set_cons_succ]
          refine take_list (i := 10) (v := ?_) rfl (by kernel_rfl) (by kernel_rfl) (by kernel_rfl) (fun _ _ _ h => h) (Or.inl ⟨by rfl, ?_⟩) (by assumption) ?_
          rotate_left
          · (intro w hSw; (try dsimp only at hSw); go_simp; try (with_reducible rfl))
          try simp only [Act.put, List.setIfInBounds_toArray, List.set_cons_zero, List.set_cons_succ]
          refine wpAnyH_done (by kernel_rfl) ?_ _
          clear hHeld3
          have S12 := Lib.hid (S8.out.call hB11)
          have T12 := Lib.hid (T8.out.call hB11)
          have U12 := Lib.hid (U8.out.call hB11)
          clear hBd hr9 hB9 hB10 hB11
          go_wp2
          go_roundw
          case rel => exact ⟨i + 1, ow5, L', A', c', by omega, by omega, by go_num, S12.out, T12.out, U12.out, hL'l⟩
          case measure => simp [intOf]; omega
    · have hx : (i < l0.length ∧ ¬ (i : Int) < 20) ∨ ¬ i < l0.length := by
        by_cases h1 : i < l0.length
        · exact .inl ⟨h1, fun h => hlt ⟨h1, h⟩⟩
        · exact .inr h1
      have HG0 := Lib.hid (show getT (M.map (·.1)) 0 = rtNone from by rw [HM.out]; rfl)
      clear hlt
      rcases hx with ⟨h1, h2⟩ | h1 <;> (
        go_wp2_with fail
        refine (get8_any 0 UX.out).mono ?_
        rintro e w4 ⟨A4, c4, rfl, ho4, hb4⟩
        rw [HG0.out] at ho4 ⊢
        have S4 := Lib.hid (SX.out.call hb4)
        have O4 := Lib.hid (ho4.rt rtNone.kind rtNone.cost)
        clear hb4 ho4
        unfold rtV
        go_wp2_with fail
        refine (same_rt rtNone rtNone A4 none c4 0 _ O4.out (HN.out _ ow).1).mono ?_
        rintro e w5 ⟨rfl, hb5⟩
        rw [show decide (rtNone = rtNone) = true from decide_eq_true rfl]
        have S5 := Lib.hid (S4.out.call hb5)
        clear hb5
        go_wp2
        go_ret
        exact ⟨rfl, S5.out.base⟩)
end Go.Proofs.YtjdnkbpclhldfaaDoor

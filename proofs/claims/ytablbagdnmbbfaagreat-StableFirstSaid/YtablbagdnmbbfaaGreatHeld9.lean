/- What backstaylaw09.Held answers. -/
import Derived.Test.YtablbagdnmbbfaaGreatRoundW
import Derived.Test.YtablbagdnmbbfaaGreatHeld
import Derived.Test.YtablbagdnmbbfaaGreatOpenR
import Derived.Test.YtablbagdnmbbfaaGreatCarryV
namespace Go.Proofs.YtablbagdnmbbfaaGreat
set_option linter.unusedSimpArgs false
set_option linter.unusedVariables false
open Go.RowKit

attribute [local go_sem ↓] Go.wp_at_zero Go.wp_at_succ
set_option maxRecDepth 100000 in
set_option maxHeartbeats 4000000 in
theorem held9_any (p : Net) (h : Hd) (R : List (List Int)) (V : List (Option Addr × Nat)) (A : Option Addr) (c : Nat) (w : World) (hp : NetR w w.heap.size p h) (hg : Good p) (hr : RowsIn w A c R V) :
    Calls Tryz.prog 19 #[netV p h, .slice A R.length c] w (StsPost w (stL p (heldS p R))) := by
  have P1 : Hid (AtRight w p h (w.alloc (.cells #[.int .i64 p.proto, .int .i64 p.cap, .int .i64 p.k, .slice h.an p.nodes.length h.cn, .slice h.al p.links.length h.cl, .slice h.ad p.dests.length h.cd, .slice h.ac p.checks.length h.cc] 30))) := Lib.hid (AtRight.begin hp)
  have HG := Lib.hid hg
  have NG := Lib.hid hg.netG
  have hn12 := hg.n12.2
  have hRm : R.length ≤ maxLen := Nat.le_trans hr.le hr.max
  unfold maxLen at hRm
  have HR := Lib.hid (hr.call ((Below.refl _ _).alloc (Nat.le_refl _) (.cells #[.int .i64 p.proto, .int .i64 p.cap, .int .i64 p.k, .slice h.an p.nodes.length h.cn, .slice h.al p.links.length h.cl, .slice h.ad p.dests.length h.cd, .slice h.ac p.checks.length h.cc] 30)))
  obtain ⟨i3, hi3, hz3, hs3, hb3⟩ := info_parts Tryz.info_rt
  clear hp hg hr
  unfold netV netVal
  go_enter Tryz.func19, Tryz.ntmps19
  go_wp2_with fail
  generalize w.alloc (.cells #[.int .i64 p.proto, .int .i64 p.cap, .int .i64 p.k, .slice h.an p.nodes.length h.cn, .slice h.al p.links.length h.cl, .slice h.ad p.dests.length h.cd, .slice h.ac p.checks.length h.cc] 30) = w1 at *
  go_loopw [5, 6] (fun sl si wx => ∃ (k : Nat) (L : List RtZ) (A : Option Addr) (c : Nat), k ≤ p.nodes.length ∧ L.length = k ∧ si = .int .i64 k ∧ sl = .slice A L.length c ∧ L.map (·.1) = (List.range k).map (heldS p R) ∧ LW w1 wx L A c) (fun _ si _ => p.nodes.length - (intOf si).toNat)
  case atStart => exact ⟨0, [], none, 0, Nat.zero_le _, rfl, rfl, rfl, rfl, LW.begin (Below.refl _ _)⟩
  case round =>
    obtain ⟨k, L, A0, c0', hk, hLk, rfl, rfl, hmap, hL⟩ := hrel
    have LX := Lib.hid hL
    have MX := Lib.hid hmap
    have HLk := Lib.hid hLk
    have hL12 : L.length ≤ 12 := by omega
    have P2 := Lib.hid (P1.out.call hL.below)
    have R2 := Lib.hid (HR.out.call hL.below)
    obtain ⟨c0, c1, c2', c3, c4, c5, c6⟩ := P2.out.all
    have hLs := hL.below.size
    clear hL hmap hLk
    by_cases hlt : k < p.nodes.length
    · have hk0 : (0 : Int) ≤ (k : Int) := by omega
      have LB := Lib.hid (LX.out.alloc (.cells #[.int .i64 0, .int .i64 0, .slice none 0 0] 53))
      have hsz : wr.heap.size < (wr.alloc (.cells #[.int .i64 0, .int .i64 0, .slice none 0 0] 53)).heap.size := by simp
      by_cases hkR : k < R.length
      · obtain ⟨z, hz⟩ : ∃ z, (R.zip V)[k]? = some z := ⟨_, List.getElem?_eq_getElem (by have := R2.out.len; rw [List.length_zip]; omega)⟩
        obtain ⟨b, o, rfl, hb, hc⟩ := R2.out.row.one (i := k) (x := rowV z) (by rw [List.getElem?_map, hz]; rfl)
        have IR := Lib.hid (R2.out.each z (List.mem_of_getElem? hz))
        have hz1 : R[k]? = some z.1 := (List.getElem?_zip_eq_some.1 (show (R.zip V)[k]? = some (z.1, z.2) from hz)).1
        have HS : Hid (heldS p R k = heldOne p k z.1) := Lib.hid (by unfold heldS; rw [hz1])
        have HZV := Lib.hid (show ((R.zip V).map rowV)[k]? = some (rowV z) from by rw [List.getElem?_map, hz]; rfl)
        unfold rowV at hc
        have hk1 : (k : Int) < (R.length : Int) := by omega
        clear hz hz1
        by_cases h3 : z.1.length % 3 = 0
        · have hq : ¬ (0 : Int) < (z.1.length : Int) % 3 := by omega
          have HM := Lib.hid (show (L ++ [((rtNone, (none, 0)) : RtZ)]).map (·.1) = (List.range (k + 1)).map (heldS p R) from by rw [List.map_append, MX.out, range_snoc, HS.out, heldOne_none h3]; rfl)
          clear h3
          go_wp2_with ((at_builtin; go_loud (refine wpList_app _ rfl _ _ 37 rfl (w1.heap.size) 53 i3 _ 3 40 Tryz.underlying37 hi3 hz3 hs3 hb3 rfl (by decide) _ _ _ (L.flatMap rtCells) rfl (LB.out.alloc _).row _ 1 _ (rtCells ((rtNone, (none, 0)) : RtZ)) rfl (Rd.new (by simp) rfl) ?h1 ?h63 ?hby ?hB ?_); go_loud (case h1 => intro u hu; simp [rtCells] at hu; rcases hu with rfl | rfl | rfl <;> rfl); go_loud (case h63 => unfold maxLen; omega); go_loud (case hby => omega); go_loud (case hB => have := LB.out.below.size; simp; omega); intro A2 c2 w5 hown2 hgrow2 hblk2 _; go_loud (have L5 := Lib.hid (LW.app (z := ((rtNone, (none, 0)) : RtZ)) (LB.out.alloc _) (show w1.heap.size ≤ wr.heap.size from hLs) (OwnOr.alloc (B := wr.heap.size) (.inr ⟨rfl, Nat.zero_le _⟩) _) (by rfl) hgrow2 hown2))); clear hown2 hgrow2 hblk2)
          go_roundw
          case rel => exact ⟨k + 1, _, A2, c2, by omega, by have := HLk.out; simp; omega, by go_num, by simp, HM.out, L5.out⟩
          case measure => simp [intOf]; omega
        · have hq : (0 : Int) < (z.1.length : Int) % 3 := by omega
          have HM := Lib.hid (show ∀ q, (L ++ [((heldR p k z.1, q) : RtZ)]).map (·.1) = (List.range (k + 1)).map (heldS p R) from fun q => by rw [List.map_append, MX.out, range_snoc, HS.out, heldOne_some h3]; rfl)
          clear h3
          have HC : Hid (∀ wy, Below wr.heap.size wr wy → wy.cell? ⟨w.heap.size, 0, none⟩ = some (.int .i64 p.proto) ∧ wy.cell? ⟨w.heap.size, 1, none⟩ = some (.int .i64 p.cap) ∧ wy.cell? ⟨w.heap.size, 2, none⟩ = some (.int .i64 p.k) ∧ wy.cell? ⟨w.heap.size, 3, none⟩ = some (.slice h.an p.nodes.length h.cn) ∧ wy.cell? ⟨w.heap.size, 4, none⟩ = some (.slice h.al p.links.length h.cl) ∧ wy.cell? ⟨w.heap.size, 5, none⟩ = some (.slice h.ad p.dests.length h.cd) ∧ wy.cell? ⟨w.heap.size, 6, none⟩ = some (.slice h.ac p.checks.length h.cc) ∧ wy.cell? ⟨b, o + k, none⟩ = some (.slice z.2.1 z.1.length z.2.2)) := Lib.hid (fun wy hb' => by
            obtain ⟨q0, q1, q2, q3, q4, q5, q6⟩ := (P2.out.call hb').all
            exact ⟨q0, q1, q2, q3, q4, q5, q6, (hb'.cell (p := ⟨b, o + k, none⟩) hb).trans hc⟩)
          have hB0 := (Bl.begin wr).push rfl (.cells #[.int .i64 0, .int .i64 0, .slice none 0 0] 53)
          rw [List.nil_append] at hB0
          have HB0 := Lib.hid hB0
          have CH : Hid (∀ wy, Bl wr wy [.cells #[.int .i64 0, .int .i64 0, .slice none 0 0] 53] → Calls Tryz.prog 38 #[.agg #[.int .i64 p.proto, .int .i64 p.cap, .int .i64 p.k, .slice h.an p.nodes.length h.cn, .slice h.al p.links.length h.cl, .slice h.ad p.dests.length h.cd, .slice h.ac p.checks.length h.cc], .int .i64 (k : Int), .slice z.2.1 z.1.length z.2.2] wy fun e w' => ∃ A5 c5, e = .returned (.agg #[.int .i64 (heldR p k z.1).kind, .int .i64 (heldR p k z.1).cost, .slice A5 (heldR p k z.1).path.length c5]) ∧ OwnOr w' (wr.heap.size + 1) A5 c5 (heldR p k z.1).path ∧ Bl wr w' [.cells #[.int .i64 0, .int .i64 0, .slice none 0 0] 53]) := Lib.hid (fun wy a =>
            (held_any p h k z.1 z.2.1 z.2.2 wy (P2.out.call a.below).net NG.out hlt (IR.out.call a.below).rd IR.out.in64 IR.out.len).mono fun e w' ⟨A5, c5, h1, h2, h3⟩ => ⟨A5, c5, h1, .inl (h2.more (by have := a.lt (i := 0) (by simp); omega)), a.call h3⟩)
          generalize heldR p k z.1 = r at *
          go_upto_region 7 with fail
          clear hc c0 c1 c2' c3 c4 c5 c6 hB0
          have hBd := HB0.out.drew
          refine wp_region_held_drew (S := (fun wy => wy.cell? ⟨w.heap.size, 0, none⟩ = some (.int .i64 p.proto) ∧ wy.cell? ⟨w.heap.size, 1, none⟩ = some (.int .i64 p.cap) ∧ wy.cell? ⟨w.heap.size, 2, none⟩ = some (.int .i64 p.k) ∧ wy.cell? ⟨w.heap.size, 3, none⟩ = some (.slice h.an p.nodes.length h.cn) ∧ wy.cell? ⟨w.heap.size, 4, none⟩ = some (.slice h.al p.links.length h.cl) ∧ wy.cell? ⟨w.heap.size, 5, none⟩ = some (.slice h.ad p.dests.length h.cd) ∧ wy.cell? ⟨w.heap.size, 6, none⟩ = some (.slice h.ac p.checks.length h.cc) ∧ wy.cell? ⟨b, o + k, none⟩ = some (.slice z.2.1 z.1.length z.2.2))) (by kernel_rfl) (HC.out _ hBd.below) (fun hHeld0 => ?_)
          refine take_list (i := 0) (v := ?_) rfl (by kernel_rfl) (by kernel_rfl) (by kernel_rfl) (fun _ _ _ h => h) (Or.inl ⟨by rfl, ?_⟩) (by assumption) ?_
          rotate_left
          · (intro w hSw; (try dsimp only at hSw); go_simp; try (with_reducible rfl))
          try simp only [Act.put, List.setIfInBounds_toArray, List.set_cons_zero, List.set_cons_succ]
          refine take_list (i := 1) (v := ?_) rfl (by kernel_rfl) (by kernel_rfl) (by kernel_rfl) (fun _ _ _ h => h) (Or.inl ⟨by rfl, ?_⟩) (by assumption) ?_
          rotate_left
          · (intro w hSw; (try dsimp only at hSw); go_simp; try (with_reducible rfl))
          try simp only [Act.put, List.setIfInBounds_toArray, List.set_cons_zero, List.set_cons_succ]
          refine take_list (i := 2) (v := ?_) rfl (by kernel_rfl) (by kernel_rfl) (by kernel_rfl) (fun _ _ _ h => h) (Or.inl ⟨by rfl, ?_⟩) (by assumption) ?_
          rotate_left
          · (intro w hSw; (try dsimp only at hSw); go_simp; try (with_reducible rfl))
          try simp only [Act.put, List.setIfInBounds_toArray, List.set_cons_zero, List.set_cons_succ]
          refine take_list (i := 3) (v := ?_) rfl (by kernel_rfl) (by kernel_rfl) (by kernel_rfl) (fun _ _ _ h => h) (Or.inl ⟨by rfl, ?_⟩) (by assumption) ?_
          rotate_left
          · (intro w hSw; (try dsimp only at hSw); go_simp; try (with_reducible rfl))
          try simp only [Act.put, List.setIfInBounds_toArray, List.set_cons_zero, List.set_cons_succ]
          refine take_list (i := 4) (v := ?_) rfl (by kernel_rfl) (by kernel_rfl) (by kernel_rfl) (fun _ _ _ h => h) (Or.inl ⟨by rfl, ?_⟩) (by assumption) ?_
          rotate_left
          · (intro w hSw; (try dsimp only at hSw); go_simp; try (with_reducible rfl))
          try simp only [Act.put, List.setIfInBounds_toArray, List.set_cons_zero, List.set_cons_succ]
          refine take_list (i := 5) (v := ?_) rfl (by kernel_rfl) (by kernel_rfl) (by kernel_rfl) (fun _ _ _ h => h) (Or.inl ⟨by rfl, ?_⟩) (by assumption) ?_
          rotate_left
          · (intro w hSw; (try dsimp only at hSw); go_simp; try (with_reducible rfl))
          try simp only [Act.put, List.setIfInBounds_toArray, List.set_cons_zero, List.set_cons_succ]
          refine wpAnyH_ready (rs := [6]) (by kernel_rfl) (by simp) ?_
          refine cons_list rfl (fun K hK => ?_) AllReadyH.nil
          go_simp
          (go_at_call 38; refine (CH.out _ hBd).mono ?_; rintro e w4 ⟨A5, c5, rfl, ho5, hB5⟩; have kz := hB5.at_ 0 _ rfl; rw [Nat.add_zero] at kz; have kr0 := cell_of_row w4 _ 0 _ _ _ kz; have kr1 := cell_of_row w4 _ 1 _ _ _ kz; have kr2 := cell_of_row w4 _ 2 _ _ _ kz; have kf0 := frozen_of_row w4 _ 0 _ _ kz; have kf1 := frozen_of_row w4 _ 1 _ _ kz; have kf2 := frozen_of_row w4 _ 2 _ _ kz; have hB6 := ((hB5.below.setCell (p := ⟨wr.heap.size, 0, none⟩) (Nat.le_refl _) (.int .i64 r.kind)).setCell (p := ⟨wr.heap.size, 1, none⟩) (Nat.le_refl _) (.int .i64 r.cost)).setCell (p := ⟨wr.heap.size, 2, none⟩) (Nat.le_refl _) (.slice A5 r.path.length c5))
          refine hK.out _ _ (HC.out _ (by first | exact hB5.below | exact hB6)) (fun hHeld1 => ?_)
          clear hK K hHeld0
          try simp only [Act.put, List.setIfInBounds_toArray, List.set_cons_zero, List.set_cons_succ]
          refine wpAnyH_ready (rs := [7]) (by kernel_rfl) (by simp) ?_
          refine cons_list rfl (fun K hK => ?_) AllReadyH.nil
          go_simp
          refine hK.out _ _ (HC.out _ (by first | exact hB5.below | exact hB6)) (fun hHeld2 => ?_)
          clear hK K hHeld1
          try simp only [Act.put, List.setIfInBounds_toArray, List.set_cons_zero, List.set_cons_succ]
          refine wpAnyH_done (by kernel_rfl) ?_ _
          clear hHeld2
          have hbx := box_put (k := r.kind) (co := r.cost) kz ho5 (Nat.lt_succ_self _) (Nat.le_refl _)
          obtain ⟨hbx, ho6⟩ := hbx
          have HO6 := Lib.hid ho6
          have L6 := Lib.hid (LX.out.call hB6)
          clear kz kr0 kr1 kr2 kf0 kf1 kf2 ho5 hB5 hBd
          generalize (((w4.setCell ⟨wr.heap.size, 0, none⟩ (.int .i64 r.kind)).setCell ⟨wr.heap.size, 1, none⟩ (.int .i64 r.cost)).setCell ⟨wr.heap.size, 2, none⟩ (.slice A5 r.path.length c5)) = w6 at *
          have kr0 := cell_of_row w6 _ 0 _ _ _ hbx
          have kr1 := cell_of_row w6 _ 1 _ _ _ hbx
          have kr2 := cell_of_row w6 _ 2 _ _ _ hbx
          clear hB6 hbx ho6
          go_wp2_with ((at_builtin; go_loud (refine wpList_app _ rfl _ _ 37 rfl (w1.heap.size) 53 i3 _ 3 40 Tryz.underlying37 hi3 hz3 hs3 hb3 rfl (by decide) _ _ _ (L.flatMap rtCells) rfl (L6.out.alloc _).row _ 1 _ (rtCells ((r, (A5, c5)) : RtZ)) rfl (Rd.new (by simp) rfl) ?h1 ?h63 ?hby ?hB ?_); go_loud (case h1 => intro u hu; simp [rtCells] at hu; rcases hu with rfl | rfl | rfl <;> rfl); go_loud (case h63 => unfold maxLen; omega); go_loud (case hby => omega); go_loud (case hB => have := L6.out.below.size; simp; omega); intro A2 c2 w5 hown2 hgrow2 hblk2 _; go_loud (have L7 := Lib.hid (LW.app (z := ((r, (A5, c5)) : RtZ)) (L6.out.alloc _) (show w1.heap.size ≤ wr.heap.size + 1 by omega) (OwnOr.alloc HO6.out _) (by rfl) hgrow2 hown2))); clear hown2 hgrow2 hblk2)
          go_roundw
          case rel => exact ⟨k + 1, _, A2, c2, by omega, by have := HLk.out; simp; omega, by go_num, by simp, HM.out _, L7.out⟩
          case measure => simp [intOf]; omega
      · have HS : Hid (heldS p R k = rtNone) := Lib.hid (by unfold heldS; rw [List.getElem?_eq_none (by omega)])
        have HM := Lib.hid (show (L ++ [((rtNone, (none, 0)) : RtZ)]).map (·.1) = (List.range (k + 1)).map (heldS p R) from by rw [List.map_append, MX.out, range_snoc, HS.out]; rfl)
        have hk1 : ¬ (k : Int) < (R.length : Int) := by omega
        go_wp2_with ((at_builtin; go_loud (refine wpList_app _ rfl _ _ 37 rfl (w1.heap.size) 53 i3 _ 3 40 Tryz.underlying37 hi3 hz3 hs3 hb3 rfl (by decide) _ _ _ (L.flatMap rtCells) rfl (LB.out.alloc _).row _ 1 _ (rtCells ((rtNone, (none, 0)) : RtZ)) rfl (Rd.new (by simp) rfl) ?h1 ?h63 ?hby ?hB ?_); go_loud (case h1 => intro u hu; simp [rtCells] at hu; rcases hu with rfl | rfl | rfl <;> rfl); go_loud (case h63 => unfold maxLen; omega); go_loud (case hby => omega); go_loud (case hB => have := LB.out.below.size; simp; omega); intro A2 c2 w5 hown2 hgrow2 hblk2 _; go_loud (have L5 := Lib.hid (LW.app (z := ((rtNone, (none, 0)) : RtZ)) (LB.out.alloc _) (show w1.heap.size ≤ wr.heap.size from hLs) (OwnOr.alloc (B := wr.heap.size) (.inr ⟨rfl, Nat.zero_le _⟩) _) (by rfl) hgrow2 hown2))); clear hown2 hgrow2 hblk2)
        go_roundw
        case rel => exact ⟨k + 1, _, A2, c2, by omega, by have := HLk.out; simp; omega, by go_num, by simp, HM.out, L5.out⟩
        case measure => simp [intOf]; omega
    · have hkN : k = p.nodes.length := by omega
      have HF : Hid (StsPost w (stL p (heldS p R)) (.returned (.slice A0 L.length c0')) wr) := Lib.hid ⟨L, A0, c0', rfl, by rw [MX.out, hkN]; rfl, LX.out.since P1.out.below⟩
      clear hkN
      go_wp2
      go_ret
      exact HF.out
end Go.Proofs.YtablbagdnmbbfaaGreat

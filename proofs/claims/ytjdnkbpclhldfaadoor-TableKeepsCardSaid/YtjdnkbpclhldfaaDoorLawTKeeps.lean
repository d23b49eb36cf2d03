/- The walk of backstaylaw08.TableKeeps. -/
import Derived.Test.YtjdnkbpclhldfaaDoorLawTOrder
namespace Go.Proofs.YtjdnkbpclhldfaaDoor
set_option linter.unusedSimpArgs false
set_option linter.unusedVariables false
open Go.RowKit

/-- Numbers in a row of the tag 2. -/
structure IdT (w : World) (ow : Nat → Nat) (K : List Int) (A : Option Addr) (c : Nat) : Prop where
  row : Own w 0 3 1 A K.length c (ints K)
  za : c = 0 → A = none
  ta : ∀ g, blk A = some g → ow g = 2
section
variable {w w' w2 : World} {ow ow' : Nat → Nat} {t : Nat} {K : List Int} {A : Option Addr} {c : Nat}
theorem IdT.begin (w : World) (ow : Nat → Nat) : IdT w ow [] none 0 := ⟨Own.nil _ _ _ _, fun _ => rfl, by intro g hg; simp [blk] at hg⟩
theorem IdT.chg (a : IdT w ow K A c) (hc : Chg ow t w w') (h1 : t ≠ 2) : IdT w' ow K A c := ⟨a.row.chg hc (fun _ g hg e => h1 (by rw [← e]; exact a.ta g hg)), a.za, a.ta⟩
theorem IdT.call (a : IdT w ow K A c) (hb : Below w.heap.size w w') : IdT w' ow K A c := ⟨a.row.call hb, a.za, a.ta⟩
theorem IdT.retag (a : IdT w ow K A c) (ha : Agr w ow ow') : IdT w ow' K A c := ⟨a.row, a.za, fun g hg => by
  by_cases hc : c = 0
  · rw [a.za hc] at hg; simp [blk] at hg
  · rw [ha g (a.row.ltb (by omega) g hg)]; exact a.ta g hg⟩
theorem IdT.step (a : IdT w ow K A c) (ha : Agr w ow ow') (hc : Chg ow t w w') (h1 : t ≠ 2) : IdT w' ow' K A c := (a.retag ha).chg (hc.agr ha) h1
theorem IdT.app (a : IdT w ow K A c) {x : Int} {A2 : Option Addr} {n c2 : Nat} (hn : n = K.length + 1) (hg : w.grownBy w2 (blk A)) (hown : Own w2 0 3 1 A2 n c2 (ints K ++ [.int .i64 x])) (hblk : A2 = A ∨ blk A2 = some w.heap.size) :
    ∃ ow', Agr w ow ow' ∧ IdT w2 ow' (K ++ [x]) A2 c2 ∧ Chg ow 2 w w2 := by
  subst hn
  obtain ⟨ow', h1, h2⟩ := tag_new w ow 2
  refine ⟨ow', h1, ⟨?_, ?_, ?_⟩, Chg.grown hg a.ta⟩
  · have e : ints (K ++ [x]) = ints K ++ [.int .i64 x] := by simp [ints]
    rw [e]; simpa using hown
  · intro e; have := hown.2.1; omega
  · intro g hg'
    rcases hblk with e | e
    · subst e
      by_cases hc : c = 0
      · rw [a.za hc] at hg'; simp [blk] at hg'
      · rw [h1 g (a.row.ltb (by omega) g hg')]; exact a.ta g hg'
    · rw [e] at hg'
      injection hg' with hg'
      exact h2 g (by omega)
theorem RowT.step {L : List RtZ} {u : Nat} (a : RowT w ow u L A c) (ha : Agr w ow ow') (hc : Chg ow t w w') (h1 : t ≠ u) (h0 : t ≠ 0) : RowT w' ow' u L A c := (a.retag ha).chg (hc.agr ha) h1 h0
theorem TS.step {w0 : World} (a : TS w0 w ow) (ha : Agr w ow ow') (hc : Chg ow t w w') (h9 : t ≠ 9) : TS w0 w' ow' := (a.retag ha).chg (hc.agr ha) h9
end
/-- Each route that was added is there, and has the number that was told. -/
structure KeepP (L rs : List Rt) (K : List Int) : Prop where
  len : rs.length = K.length
  each : ∀ (j : Nat) (r : Rt), rs[j]? = some r → r ∈ L ∧ RtOk r ∧ K[j]? = some ((L.idxOf r : Nat) : Int)
theorem KeepP.add {L rs : List Rt} {K : List Int} (h : KeepP L rs K) {r : Rt} (hr : RtOk r) (hm : (L.length : Int) < 100) : KeepP (addGL 100 L r) (rs ++ [r]) (K ++ [addGN 100 L r]) := by
  have hpre : ∃ M, addGL 100 L r = L ++ M := by
    obtain ⟨-, h | h⟩ := add_ok hr hm
    · exact ⟨[], by rw [h.2.1]; simp⟩
    · exact ⟨[r], h.2.1⟩
  obtain ⟨M, hM⟩ := hpre
  refine ⟨by simp [h.len], fun j s hs => ?_⟩
  by_cases hj : j < rs.length
  · rw [List.getElem?_append_left hj] at hs
    obtain ⟨h1, h2, h3⟩ := h.each j s hs
    refine ⟨by rw [hM]; exact List.mem_append_left _ h1, h2, ?_⟩
    rw [List.getElem?_append_left (by rw [← h.len]; exact hj), h3, hM, idx_append h1]
  · have hjl : j = rs.length := by
      have := (List.getElem?_eq_some_iff.1 hs).1
      simp at this; omega
    subst hjl
    rw [List.getElem?_append_right (Nat.le_refl _)] at hs
    simp at hs
    subst hs
    rw [List.getElem?_append_right (by rw [h.len]; exact Nat.le_refl _), h.len]
    obtain ⟨-, h | h⟩ := add_ok hr hm
    · exact ⟨by rw [h.2.1]; exact h.1, hr, by rw [h.2.1, h.2.2.1]; simp⟩
    · exact ⟨by rw [h.2.1]; simp, hr, by rw [h.2.1, h.2.2.1, idx_new h.1]; simp⟩

attribute [local go_sem ↓] Go.wp_at_zero Go.wp_at_succ
set_option maxRecDepth 100000 in
set_option maxHeartbeats 8000000 in
theorem tableKeeps_walk (a0 : Option Addr) (c0 : Nat) (l0 : List (List Int)) (V0 : List (Option Addr × Nat)) (w : World) (h0 : RowsIn w a0 c0 l0 V0) (ht : Tab w) :
    Calls Tryd.prog 4 #[.slice a0 l0.length c0] w fun e w' => e = .returned (.bool true) ∧ Below w.heap.size w w' := by
  have HT := Lib.hid ht
  have H0 := Lib.hid h0
  have H30 : Hid ((3 : Nat) ≠ 0) := Lib.hid (by decide)
  have H39 : Hid ((3 : Nat) ≠ 9) := Lib.hid (by decide)
  have H3 : Hid ((3 : Nat) ≠ 1 ∧ (3 : Nat) ≠ 2) := Lib.hid (by decide)
  have H1 : Hid ((1 : Nat) ≠ 0 ∧ (1 : Nat) ≠ 2 ∧ (1 : Nat) ≠ 3 ∧ (1 : Nat) ≠ 9) := Lib.hid (by decide)
  have H2 : Hid ((2 : Nat) ≠ 0 ∧ (2 : Nat) ≠ 1 ∧ (2 : Nat) ≠ 3 ∧ (2 : Nat) ≠ 9) := Lib.hid (by decide)
  have hl0 : l0.length ≤ maxLen := Nat.le_trans h0.le h0.max
  unfold maxLen at hl0
  obtain ⟨i3, hi3, hz3, hs3, hb3⟩ := info_parts Tryd.info_rt
  obtain ⟨i1, hi1, hz1, hs1, hb1⟩ := info_parts Tryd.info_int
  clear ht h0
  go_enter Tryd.func4, Tryd.ntmps4
  go_wp2_with fail
  refine (awake8 w HT.out).mono ?_
  rintro e w1 ⟨rfl, hb1⟩
  have S1 := Lib.hid ((TS.begin w).call hb1)
  clear hb1
  go_wp2_with fail
  refine (new8_any 100 (by decide) (by decide) w1 (fun _ => 9) 3 H30.out (S1.out.tab0 HT.out)).mono ?_
  rintro e w2 ⟨bt, bm, L, A, c, ow, rfl, hL, hag, htab, hb2⟩
  have T2 := Lib.hid htab
  have S2 := Lib.hid ((S1.out.retag hag).call hb2)
  have HL := Lib.hid hL
  clear hL hag htab hb2
  go_wp2_with fail
  go_loopw [5, 6, 7] (fun sl sk si wx => ∃ (i : Nat) (ow : Nat → Nat) (L : List RtZ) (A : Option Addr) (c : Nat) (Z : List RtZ) (B : Option Addr) (d : Nat) (K : List Int) (C : Option Addr) (f : Nat), i ≤ l0.length ∧ i ≤ 30 ∧ si = .int .i64 i ∧ sl = .slice B Z.length d ∧ sk = .slice C K.length f ∧ Z.length = i ∧ TS w wx ow ∧ TabT wx ow 3 bt bm 100 L A c ∧ RowT wx ow 1 Z B d ∧ IdT wx ow K C f ∧ L.length ≤ i + 1 ∧ KeepP (L.map (·.1)) (Z.map (·.1)) K) (fun _ _ si _ => 30 - (intOf si).toNat)
  case atStart => exact ⟨0, ow, L, A, c, [], none, 0, [], none, 0, Nat.zero_le _, by omega, rfl, rfl, rfl, rfl, S2.out, T2.out, RowT.begin _ _ _, IdT.begin _ _, by have := congrArg List.length HL.out; simp at this; omega, ⟨rfl, fun j r h => by simp at h⟩⟩
  case round =>
    obtain ⟨i, ow, L, A, c, Z, B, d, K, C, f, hi, hi30, rfl, rfl, rfl, hZi, hS, hT, hZ, hK, hLi, hP⟩ := hrel
    have SX := Lib.hid hS
    have TX := Lib.hid hT
    have ZX := Lib.hid hZ
    have KX := Lib.hid hK
    have HP := Lib.hid hP
    have hKl : K.length = Z.length := by have := hP.len; rw [List.length_map] at this; omega
    have hL31 : L.length ≤ 31 := by omega
    clear hS hT hZ hK hP
    by_cases hlt : i < l0.length ∧ (i : Int) < 30
    · obtain ⟨hlt, h30⟩ := hlt
      have RX := Lib.hid (H0.out.call SX.out.base)
      obtain ⟨z, hz⟩ : ∃ z, (l0.zip V0)[i]? = some z := ⟨_, List.getElem?_eq_getElem (by have := RX.out.len; rw [List.length_zip]; omega)⟩
      obtain ⟨b, o, rfl, hb, hc⟩ := RX.out.row.one (i := i) (x := rowV z) (by rw [List.getElem?_map, hz]; rfl)
      have IR := Lib.hid (RX.out.each z (List.mem_of_getElem? hz))
      have hi0 : (0 : Int) ≤ (i : Int) := by omega
      unfold rowV at hc
      clear hz hb
      go_wp2_with fail
      refine (route_any z.1 z.2.1 z.2.2 _ IR.out.rd IR.out.in64 IR.out.len).mono ?_
      rintro e w4 ⟨A3, c3, rfl, ho3, hb3⟩
      have HOK := Lib.hid (routeR_ok z.1)
      generalize routeR z.1 = r at *
      obtain ⟨ow1, ho1, ho2⟩ := tag_new wr ow 0
      have hbo : Below w4.heap.size w4 (w4.alloc (.cells #[.int .i64 r.kind, .int .i64 r.cost, .slice A3 r.path.length c3] 25)) := (Below.refl _ _).alloc (Nat.le_refl _) _
      have S4 := Lib.hid (((SX.out.retag ho1).call hb3).call hbo)
      have T4 := Lib.hid (((TX.out.retag ho1).call hb3).call hbo)
      have Z4 := Lib.hid (((ZX.out.retag ho1).call hb3).call hbo)
      have K4 := Lib.hid (((KX.out.retag ho1).call hb3).call hbo)
      have R4 := Lib.hid (RB.new ho2 hb3.size (.inl ho3))
      have HNX := Lib.hid (HP.out.add HOK.out (by rw [List.length_map]; omega))
      have HE0 := Lib.hid (add_ok (most := 100) (L := L.map (·.1)) HOK.out (by rw [List.length_map]; omega)).1
      clear hbo ho1 ho2 ho3 hb3 hc
      unfold rtV
      go_upto_region 9 with fail
      generalize (w4.alloc (.cells #[.int .i64 r.kind, .int .i64 r.cost, .slice A3 r.path.length c3] 25)) = w5 at *
      generalize w4.heap.size = bo at *
      obtain ⟨b0, b1, b2⟩ := R4.out.at_
      go_wp2_with fail
      refine (add8_any r A3 c3 T4.out H30.out (R4.out.rtT H30.out) (S4.out.tab HT.out H39.out) (by omega)).mono ?_
      rintro e w6 hp
      obtain ⟨L', A', c', ow', rfl, hL', hag, htab, hch, hs⟩ := hp.ts S4.out H39.out
      have T6 := Lib.hid htab
      have Z6 := Lib.hid (Z4.out.step hag hch H3.out.1 H30.out)
      have K6 := Lib.hid (K4.out.step hag hch H3.out.2)
      have R6 := Lib.hid (R4.out.step hag hch H30.out)
      have S6 := Lib.hid hs
      rw [← hL'] at HNX
      have hL'l : L'.length ≤ i + 1 + 1 := by
        have h1 := congrArg List.length hL'
        rw [List.length_map] at h1
        obtain ⟨-, h | h⟩ := add_ok (most := 100) (L := L.map (·.1)) HOK.out (by rw [List.length_map]; omega)
        · rw [h.2.1, List.length_map] at h1; omega
        · rw [h.2.1, List.length_append, List.length_map] at h1; simp at h1; omega
      rw [HE0.out]
      generalize addGN 100 (L.map (·.1)) r = kn at *
      have hb67 : Below w6.heap.size w6 (w6.alloc (.cells #[.int .i64 r.kind, .int .i64 r.cost, .slice A3 r.path.length c3] 25)) := (Below.refl _ _).alloc (Nat.le_refl _) _
      have S7 := Lib.hid (S6.out.call hb67)
      have T7 := Lib.hid (T6.out.call hb67)
      have Z7 := Lib.hid (Z6.out.call hb67)
      have K7 := Lib.hid (K6.out.call hb67)
      have R7 := Lib.hid (R6.out.call hb67)
      clear hp htab hs hag hch hL' b0 b1 b2 hb67
      obtain ⟨b0, b1, b2⟩ := R6.out.at_
      go_upto_region 13 with (at_builtin; refine wpList_app _ rfl _ _ 30 rfl 0 25 i3 _ 3 40 Tryd.underlying30 hi3 hz3 hs3 hb3 rfl (by decide) _ _ _ (Z.flatMap rtCells) rfl (by have := Z7.out.row; rw [hZi] at this; exact this) _ 1 _ (rtCells ((r, (A3, c3)) : RtZ)) rfl (Rd.new (by simp) rfl) ?h1 ?h63 ?hby ?hB ?_; (case h1 => intro u hu; simp [rtCells] at hu; rcases hu with rfl | rfl | rfl <;> rfl); (case h63 => unfold maxLen; omega); (case hby => omega); (case hB => exact Nat.zero_le _); intro A7 c7 w7 hown7 hgrow7 hblk7 _)
      obtain ⟨ow2, ha7, hz7, hc7, -⟩ := Z7.out.app H1.out.1 (z := ((r, (A3, c3)) : RtZ)) R7.out.path (by rw [hZi]) hgrow7 hown7 hblk7
      have Z8 := Lib.hid hz7
      have S8 := Lib.hid (S7.out.step ha7 hc7 H1.out.2.2.2)
      have T8 := Lib.hid (T7.out.step ha7 hc7 H1.out.2.2.1 H1.out.1)
      have K8 := Lib.hid (K7.out.step ha7 hc7 H1.out.2.1)
      clear ha7 hz7 hc7 hgrow7 hown7 hblk7 b0 b1 b2
      have hb78 : Below w7.heap.size w7 (w7.alloc (.cells #[.int .i64 kn] 3)) := (Below.refl _ _).alloc (Nat.le_refl _) _
      have S9 := Lib.hid (S8.out.call hb78)
      have T9 := Lib.hid (T8.out.call hb78)
      have Z9 := Lib.hid (Z8.out.call hb78)
      have K9 := Lib.hid (K8.out.call hb78)
      clear hb78
      go_wp2_with (at_builtin; refine wpList_app _ rfl _ _ 23 rfl 0 3 i1 (.int .i64 0) 1 8 Tryd.underlying23 hi1 hz1 hs1 hb1 rfl (by decide) _ _ _ (ints K) rfl (by have := K9.out.row; rw [hKl, hZi] at this; exact this) _ 1 _ [.int .i64 kn] rfl (Rd.new (by simp) rfl) ?h1 ?h63 ?hby ?hB ?_; (case h1 => intro u hu; simp at hu; subst hu; rfl); (case h63 => unfold maxLen; omega); (case hby => omega); (case hB => exact Nat.zero_le _); intro A8 c8 w8 hown8 hgrow8 hblk8 _)
      obtain ⟨ow3, ha8, hk8, hc8⟩ := K9.out.app (x := kn) (by rw [hKl, hZi]) hgrow8 hown8 hblk8
      have KY := Lib.hid hk8
      have SY := Lib.hid (S9.out.step ha8 hc8 H2.out.2.2.2)
      have TY := Lib.hid (T9.out.step ha8 hc8 H2.out.2.2.1 H2.out.1)
      have ZY := Lib.hid (Z9.out.step ha8 hc8 H2.out.2.1 H2.out.1)
      clear ha8 hk8 hc8 hgrow8 hown8 hblk8
      go_roundw
      case rel =>
        refine ⟨i + 1, ow3, L', A', c', Z ++ [((r, (A3, c3)) : RtZ)], A7, c7, K ++ [kn], A8, c8, by omega, by omega, by go_num, ?_, ?_, by simp [hZi], SY.out, TY.out, ZY.out, KY.out, by omega, ?_⟩
        · rw [List.length_append, hZi]; rfl
        · rw [List.length_append, hKl, hZi]; rfl
        · have := HNX.out; rw [List.map_append]; exact this
      case measure => simp [intOf]; omega
    · have hx : (i < l0.length ∧ ¬ (i : Int) < 30) ∨ ¬ i < l0.length := by
        by_cases h1 : i < l0.length
        · exact .inl ⟨h1, fun h => hlt ⟨h1, h⟩⟩
        · exact .inr h1
      clear hlt
      have HLl : Hid (L.length = (L.map (·.1)).length) := Lib.hid (List.length_map _).symm
      rcases hx with ⟨h1, h2⟩ | h1 <;> (
        go_wp2_with fail
        refine (size8_any TX.out).mono ?_
        rintro e w3 ⟨rfl, hb3⟩
        have S3 := Lib.hid (SX.out.call hb3)
        have T3 := Lib.hid (TX.out.call hb3)
        have Z3 := Lib.hid (ZX.out.call hb3)
        have K3 := Lib.hid (KX.out.call hb3)
        clear hb3
        go_wp2_with fail
        go_loopw [12] (fun sj wx => ∃ (j : Nat) (ow2 : Nat → Nat) (L2 : List RtZ) (A2 : Option Addr) (c2 : Nat), j ≤ i ∧ sj = .int .i64 j ∧ TS w wx ow2 ∧ TabT wx ow2 3 bt bm 100 L2 A2 c2 ∧ L2.map (·.1) = L.map (·.1) ∧ RowT wx ow2 1 Z B d ∧ IdT wx ow2 K C f) (fun sj _ => i - (intOf sj).toNat)
        case atStart => exact ⟨0, ow, L, A, c, Nat.zero_le _, rfl, S3.out, T3.out, rfl, Z3.out, K3.out⟩
        case round =>
          obtain ⟨j, ow2, L2, A2, c2, hj, rfl, hS, hT, hL2, hZ, hK⟩ := hrel
          have S4 := Lib.hid hS
          have T4 := Lib.hid hT
          have Z4 := Lib.hid hZ
          have K4 := Lib.hid hK
          have HL2 := Lib.hid hL2
          have hL2l : L2.length = L.length := by have := congrArg List.length hL2; simpa using this
          have HL2l := Lib.hid hL2l
          clear hS hT hZ hK hL2 hL2l
          by_cases hji : j < i
          · obtain ⟨z, hz⟩ : ∃ z, Z[j]? = some z := ⟨_, List.getElem?_eq_getElem (by omega)⟩
            obtain ⟨hm, hrok, hk⟩ := HP.out.each j z.1 (by rw [List.getElem?_map, hz]; rfl)
            have HM := Lib.hid hm
            have hixl : (L.map (·.1)).idxOf z.1 < L.length := by have := idx_lt hm; rw [List.length_map] at this; exact this
            have HAD : Hid (addGN 100 (L2.map (·.1)) z.1 = (((L.map (·.1)).idxOf z.1 : Nat) : Int) ∧ addGE 100 (L2.map (·.1)) z.1 = 0 ∧ addGL 100 (L2.map (·.1)) z.1 = L.map (·.1)) := Lib.hid (by
              rw [HL2.out]
              obtain ⟨h1, h2 | h2⟩ := add_ok (most := 100) (L := L.map (·.1)) hrok (by rw [List.length_map]; omega)
              · exact ⟨h2.2.2.1, h1, h2.2.1⟩
              · exact absurd hm h2.1)
            have HFD : Hid (findG (L.map (·.1)) z.1 = (((L.map (·.1)).idxOf z.1 : Nat) : Int)) := Lib.hid (by
              obtain ⟨h1, h2 | h2⟩ := add_ok (most := 100) (L := L.map (·.1)) hrok (by rw [List.length_map]; omega)
              · exact h2.2.2.2
              · exact absurd hm h2.1)
            have HGT : Hid (getT (L.map (·.1)) (((L.map (·.1)).idxOf z.1 : Nat) : Int) = z.1) := Lib.hid (by
              unfold getT; rw [if_pos (by omega), Int.toNat_natCast, idx_at hm]; rfl)
            have HIX : Hid (∀ y ∈ L.map (·.1), ((L.map (·.1)).idxOf z.1 = (L.map (·.1)).idxOf y ↔ z.1 = y)) := Lib.hid (fun y hy => idx_inj hm hy)
            clear hm hrok
            generalize (L.map (·.1)).idxOf z.1 = ix at *
            obtain ⟨b, o, rfl, hb, z0, z1, z2⟩ := Z4.out.rts.at_ hz
            obtain ⟨b', o', rfl, hb', k0⟩ := K4.out.row.rd.one (i := j) (x := .int .i64 (ix : Int)) (by unfold ints; rw [List.getElem?_map, hk]; rfl)
            have HZM := Lib.hid (List.mem_of_getElem? hz)
            have HZJ := Lib.hid hz
            have HKJ := Lib.hid hk
            have hj0 : (0 : Int) ≤ (j : Int) := by omega
            have hji' : (j : Int) < (i : Int) := by omega
            clear hz hk hb hb'
            go_wp2_with fail
            refine (add8_any z.1 z.2.1 z.2.2 T4.out H30.out ((Z4.out.each z HZM.out).rtT H30.out) (S4.out.tab HT.out H39.out) (by have := HL2l.out; omega)).mono ?_
            rintro e w5 hp
            obtain ⟨L5, A5, c5, ow5, rfl, hL5, hag, htab, hch, hs⟩ := hp.ts S4.out H39.out
            rw [HAD.out.1, HAD.out.2.1]
            rw [HAD.out.2.2] at hL5
            have HL5 := Lib.hid hL5
            have T5 := Lib.hid htab
            have S5 := Lib.hid hs
            have Z5 := Lib.hid (Z4.out.step hag hch H3.out.1 H30.out)
            have K5 := Lib.hid (K4.out.step hag hch H3.out.2)
            clear hp htab hs hag hch hL5 z0 z1 z2 k0
            go_upto_region 19 with fail
            have HC : Hid (∀ wy, Below w5.heap.size w5 wy → wy.cell? ⟨b', o' + j, none⟩ = some (.int .i64 (ix : Int)) ∧ wy.cell? ⟨b, o + j * 3, none⟩ = some (.int .i64 z.1.kind) ∧ wy.cell? ⟨b, o + j * 3 + 1, none⟩ = some (.int .i64 z.1.cost) ∧ wy.cell? ⟨b, o + j * 3 + 2, none⟩ = some (.slice z.2.1 z.1.path.length z.2.2)) := Lib.hid (fun wy hb => by
              obtain ⟨_, _, e, -, z0, z1, z2⟩ := ((Z5.out.call hb).rts.at_ HZJ.out)
              obtain ⟨_, _, e', -, k0⟩ := (K5.out.call hb).row.rd.one (i := j) (x := .int .i64 (ix : Int)) (by unfold ints; rw [List.getElem?_map, HKJ.out]; rfl)
              injection e with e
              injection e with e1 e2
              subst e1 e2
              injection e' with e'
              injection e' with e1 e2
              subst e1 e2
              exact ⟨k0, z0, z1, z2⟩)
            have CF : Hid (∀ wy, Below w5.heap.size w5 wy → Calls Tryd.prog 16 #[.pointer (some ⟨bt, 0, none⟩), .agg #[.int .i64 z.1.kind, .int .i64 z.1.cost, .slice z.2.1 z.1.path.length z.2.2]] wy fun e w' => e = .returned (.int .i64 (ix : Int)) ∧ Below w5.heap.size w5 w') := Lib.hid (fun wy hb =>
              (find8_any z.1 z.2.1 z.2.2 (T5.out.call hb) ((Z5.out.call hb).each z HZM.out).rt ((S5.out.call hb).tab0 HT.out)).mono fun e w' ⟨h1, h2⟩ => ⟨by rw [h1, HL5.out, HFD.out], since_trans hb h2⟩)
            have CG : Hid (∀ wy, Below w5.heap.size w5 wy → Calls Tryd.prog 19 #[.pointer (some ⟨bt, 0, none⟩), .int .i64 (ix : Int)] wy fun e w' => ∃ A9 c9, e = .returned (.agg #[.int .i64 z.1.kind, .int .i64 z.1.cost, .slice A9 z.1.path.length c9]) ∧ RtR w' w'.heap.size z.1 A9 c9 ∧ Below w5.heap.size w5 w') := Lib.hid (fun wy hb =>
              (get8_any (ix : Int) (T5.out.call hb)).mono fun e w' ⟨A9, c9, h1, h2, h3⟩ => ⟨A9, c9, by rw [h1, HL5.out, HGT.out]; rfl, by rw [HL5.out, HGT.out] at h2; exact h2.rt _ _, since_trans hb h3⟩)
            have CS : Hid (∀ A9 c9 wy, RtR wy wy.heap.size z.1 A9 c9 → Below w5.heap.size w5 wy → Calls Tryd.prog 18 #[.agg #[.int .i64 z.1.kind, .int .i64 z.1.cost, .slice A9 z.1.path.length c9], .agg #[.int .i64 z.1.kind, .int .i64 z.1.cost, .slice z.2.1 z.1.path.length z.2.2]] wy fun e w' => e = .returned (.bool true) ∧ Below w5.heap.size w5 w') := Lib.hid (fun A9 c9 wy hr hb =>
              (refSame_any z.1 z.1 A9 z.2.1 c9 z.2.2 wy hr ((Z5.out.call hb).each z HZM.out).rt).mono fun e w' ⟨h1, h2⟩ => ⟨by rw [h1]; simp, since_trans hb h2⟩)
            have hq1 : ((ix : Int) != (ix : Int)) = false := by simp
            have hq2 : decide ((ix : Int) < 0) = false := decide_eq_false (by omega)
            have hq3 : decide ((L.length : Int) ≤ (ix : Int)) = false := decide_eq_false (by omega)
            have hq4 : decide (L.length ≤ ix) = false := decide_eq_false (by omega)
            have hBd : Below w5.heap.size w5 w5.drew := below_drew (Below.refl _ _)
            refine wp_region_held_drew (S := (fun wy => wy.cell? ⟨b', o' + j, none⟩ = some (.int .i64 (ix : Int)) ∧ wy.cell? ⟨b, o + j * 3, none⟩ = some (.int .i64 z.1.kind) ∧ wy.cell? ⟨b, o + j * 3 + 1, none⟩ = some (.int .i64 z.1.cost) ∧ wy.cell? ⟨b, o + j * 3 + 2, none⟩ = some (.slice z.2.1 z.1.path.length z.2.2))) (by kernel_rfl) (HC.out _ hBd) (fun hHeld0 => ?_)
            refine take_list (i := 0) (v := ?_) rfl (by kernel_rfl) (by kernel_rfl) (by kernel_rfl) (fun _ _ _ h => h) (Or.inl ⟨by rfl, ?_⟩) (by assumption) ?_
            rotate_left
            · (intro w hSw; (try dsimp only at hSw); go_simp; try (with_reducible rfl))
            try simp only [Act.put, List.setIfInBounds_toArray, List.set_cons_zero, List.set_cons_succ]
            refine take_list (i := 1) (v := ?_) rfl (by kernel_rfl) (by kernel_rfl) (by kernel_rfl) (fun _ _ _ h => h) (Or.inl ⟨by rfl, ?_⟩) (by assumption) ?_
            rotate_left
            · (intro w hSw; (try dsimp only at hSw); go_simp; try (with_reducible rfl))
            try simp only [Act.put, List.setIfInBounds_toArray, List.set_cons_zero, List.set_cons_succ]
            refine take_list (i := 2) (v := ?_) rfl (by kernel_rfl) (by kernel_rfl) (by kernel_rfl) (fun _ _ _ h => h) (Or.inl ⟨by rfl, ?_⟩) (by assumption) ?_
            rotate_left
            · (intro w hSw; (try dsimp only at hSw); go_simp; try (with_reducible rfl))
            try simp only [Act.put, List.setIfInBounds_toArray, List.set_cons_zero, List.set_cons_succ]
            refine take_list (i := 3) (v := ?_) rfl (by kernel_rfl) (by kernel_rfl) (by kernel_rfl) (fun _ _ _ h => h) (Or.inl ⟨by rfl, ?_⟩) (by assumption) ?_
            rotate_left
            · (intro w hSw; (try dsimp only at hSw); go_simp; try (with_reducible rfl))
            try simp only [Act.put, List.setIfInBounds_toArray, List.set_cons_zero, List.set_cons_succ]
            refine take_list (i := 4) (v := ?_) rfl (by kernel_rfl) (by kernel_rfl) (by kernel_rfl) (fun _ _ _ h => h) (Or.inl ⟨by rfl, ?_⟩) (by assumption) ?_
            rotate_left
            · (intro w hSw; (try dsimp only at hSw); go_simp; try (with_reducible rfl))
            try simp only [Act.put, List.setIfInBounds_toArray, List.set_cons_zero, List.set_cons_succ]
            refine take_list (i := 5) (v := ?_) rfl (by kernel_rfl) (by kernel_rfl) (by kernel_rfl) (fun _ _ _ h => h) (Or.inl ⟨by rfl, ?_⟩) (by assumption) ?_
            rotate_left
            · (intro w hSw; (try dsimp only at hSw); go_simp; try (with_reducible rfl))
            try simp only [Act.put, List.setIfInBounds_toArray, List.set_cons_zero, List.set_cons_succ]
            refine take_list (i := 6) (v := ?_) rfl (by kernel_rfl) (by kernel_rfl) (by kernel_rfl) (fun _ _ _ h => h) (Or.inl ⟨by rfl, ?_⟩) (by assumption) ?_
            rotate_left
            · (intro w hSw; (try dsimp only at hSw); go_simp; try (with_reducible rfl))
            try simp only [Act.put, List.setIfInBounds_toArray, List.set_cons_zero, List.set_cons_succ]
            refine take_list (i := 7) (v := ?_) rfl (by kernel_rfl) (by kernel_rfl) (by kernel_rfl) (fun _ _ _ h => h) (Or.inl ⟨by rfl, ?_⟩) (by assumption) ?_
            rotate_left
            · (intro w hSw; (try dsimp only at hSw); go_simp; try (with_reducible rfl))
            try simp only [Act.put, List.setIfInBounds_toArray, List.set_cons_zero, List.set_cons_succ]
            refine take_list (i := 8) (v := ?_) rfl (by kernel_rfl) (by kernel_rfl) (by kernel_rfl) (fun _ _ _ h => h) (Or.inl ⟨by rfl, ?_⟩) (by assumption) ?_
            rotate_left
            · (intro w hSw; (try dsimp only at hSw); go_simp; try (with_reducible rfl))
            try simp only [Act.put, List.setIfInBounds_toArray, List.set_cons_zero, List.set_cons_succ]
            refine take_list (i := 9) (v := ?_) rfl (by kernel_rfl) (by kernel_rfl) (by kernel_rfl) (fun _ _ _ h => h) (Or.inl ⟨by rfl, ?_⟩) (by assumption) ?_
            rotate_left
            · (intro w hSw; (try dsimp only at hSw); go_simp; try (with_reducible rfl))
            try simp only [Act.put, List.setIfInBounds_toArray, List.set_cons_zero, List.set_cons_succ]
            refine take_list (i := 10) (v := ?_) rfl (by kernel_rfl) (by kernel_rfl) (by kernel_rfl) (fun _ _ _ h => h) (Or.inl ⟨by rfl, ?_⟩) (by assumption) ?_
            rotate_left
            · (intro w hSw; (try dsimp only at hSw); go_simp; try (with_reducible rfl))
            try simp only [Act.put, List.setIfInBounds_toArray, List.set_cons_zero, List.set_cons_succ]
            refine take_list (i := 11) (v := ?_) rfl (by kernel_rfl) (by kernel_rfl) (by kernel_rfl) (fun _ _ _ h => h) (Or.inl ⟨by rfl, ?_⟩) (by assumption) ?_
            rotate_left
            · (intro w hSw; (try dsimp only at hSw); go_simp; try (with_reducible rfl))
            try simp only [Act.put, List.setIfInBounds_toArray, List.set_cons_zero, List.set_cons_succ]
            refine take_list (i := 12) (v := ?_) rfl (by kernel_rfl) (by kernel_rfl) (by kernel_rfl) (fun _ _ _ h => h) (Or.inl ⟨by rfl, ?_⟩) (by assumption) ?_
            rotate_left
            · (intro w hSw; (try dsimp only at hSw); go_simp; try (with_reducible rfl))
            try simp only [Act.put, List.setIfInBounds_toArray, List.set_cons_zero, List.set_cons_succ]
            refine take_list (i := 13) (v := ?_) rfl (by kernel_rfl) (by kernel_rfl) (by kernel_rfl) (fun _ _ _ h => h) (Or.inl ⟨by rfl, ?_⟩) (by assumption) ?_
            rotate_left
            · (intro w hSw; (try dsimp only at hSw); go_simp; try (with_reducible rfl))
            try simp only [Act.put, List.setIfInBounds_toArray, List.set_cons_zero, List.set_cons_succ]
            refine take_list (i := 14) (v := ?_) rfl (by kernel_rfl) (by kernel_rfl) (by kernel_rfl) (fun _ _ _ h => h) (Or.inl ⟨by rfl, ?_⟩) (by assumption) ?_
            rotate_left
            · (intro w hSw; (try dsimp only at hSw); go_simp; try (with_reducible rfl))
            try simp only [Act.put, List.setIfInBounds_toArray, List.set_cons_zero, List.set_cons_succ]
            refine take_list (i := 15) (v := ?_) rfl (by kernel_rfl) (by kernel_rfl) (by kernel_rfl) (fun _ _ _ h => h) (Or.inl ⟨by rfl, ?_⟩) (by assumption) ?_
            rotate_left
            · (intro w hSw; (try dsimp only at hSw); go_simp; try (with_reducible rfl))
            try simp only [Act.put, List.setIfInBounds_toArray, List.set_cons_zero, List.set_cons_succ]
            refine take_list (i := 17) (v := ?_) rfl (by kernel_rfl) (by kernel_rfl) (by kernel_rfl) (fun _ _ _ h => h) (Or.inl ⟨by rfl, ?_⟩) (by assumption) ?_
            rotate_left
            · (intro w hSw; (try dsimp only at hSw); go_simp; try (with_reducible rfl))
            try simp only [Act.put, List.setIfInBounds_toArray, List.set_cons_zero, List.set_cons_succ]
            refine wpAnyH_ready (rs := [16]) (by kernel_rfl) (by simp) ?_
            refine cons_list rfl (fun K hK => ?_) AllReadyH.nil
            go_simp
            (go_at_call 16; refine (CF.out _ hBd).mono ?_; rintro e w6 ⟨rfl, hB6⟩)
            refine hK.out _ _ (HC.out _ (by assumption)) (fun hHeld1 => ?_)
            clear hK K hHeld0
            try simp only [Act.put, List.setIfInBounds_toArray, List.set_cons_zero, List.set_cons_succ]
            refine take_list (i := 18) (v := ?_) rfl (by kernel_rfl) (by kernel_rfl) (by kernel_rfl) (fun _ _ _ h => h) (Or.inl ⟨by rfl, ?_⟩) (by assumption) ?_
            rotate_left
            · (intro w hSw; (try dsimp only at hSw); go_simp; try (with_reducible rfl))
            try simp only [Act.put, List.setIfInBounds_toArray, List.set_cons_zero, List.set_cons_succ]
            refine take_list (i := 19) (v := ?_) rfl (by kernel_rfl) (by kernel_rfl) (by kernel_rfl) (fun _ _ _ h => h) (Or.inl ⟨by rfl, ?_⟩) (by assumption) ?_
            rotate_left
            · (intro w hSw; (try dsimp only at hSw); go_simp; try (with_reducible rfl))
            try simp only [Act.put, List.setIfInBounds_toArray, List.set_cons_zero, List.set_cons_succ]
            refine take_list (i := 20) (v := ?_) rfl (by kernel_rfl) (by kernel_rfl) (by kernel_rfl) (fun _ _ _ h => h) (Or.inl ⟨by rfl, ?_⟩) (by assumption) ?_
            rotate_left
            · (intro w hSw; (try dsimp only at hSw); go_simp; try (with_reducible rfl))
            try simp only [Act.put, List.setIfInBounds_toArray, List.set_cons_zero, List.set_cons_succ]
            refine take_list (i := 21) (v := ?_) rfl (by kernel_rfl) (by kernel_rfl) (by kernel_rfl) (fun _ _ _ h => h) (Or.inl ⟨by rfl, ?_⟩) (by assumption) ?_
            rotate_left
            · (intro w hSw; (try dsimp only at hSw); go_simp; try (with_reducible rfl))
            try simp only [Act.put, List.setIfInBounds_toArray, List.set_cons_zero, List.set_cons_succ]
            refine take_list (i := 22) (v := ?_) rfl (by kernel_rfl) (by kernel_rfl) (by kernel_rfl) (fun _ _ _ h => h) (Or.inl ⟨by rfl, ?_⟩) (by assumption) ?_
            rotate_left
            · (intro w hSw; (try dsimp only at hSw); go_simp; try (with_reducible rfl))
            try simp only [Act.put, List.setIfInBounds_toArray, List.set_cons_zero, List.set_cons_succ]
            refine take_list (i := 24) (v := ?_) rfl (by kernel_rfl) (by kernel_rfl) (by kernel_rfl) (fun _ _ _ h => h) (Or.inl ⟨by rfl, ?_⟩) (by assumption) ?_
            rotate_left
            · (intro w hSw; (try dsimp only at hSw); go_simp; try (with_reducible rfl))
            try simp only [Act.put, List.setIfInBounds_toArray, List.set_cons_zero, List.set_cons_succ]
            refine take_list (i := 25) (v := ?_) rfl (by kernel_rfl) (by kernel_rfl) (by kernel_rfl) (fun _ _ _ h => h) (Or.inl ⟨by rfl, ?_⟩) (by assumption) ?_
            rotate_left
            · (intro w hSw; (try dsimp only at hSw); go_simp; try (with_reducible rfl))
            try simp only [Act.put, List.setIfInBounds_toArray, List.set_cons_zero, List.set_cons_succ]
            refine take_list (i := 26) (v := ?_) rfl (by kernel_rfl) (by kernel_rfl) (by kernel_rfl) (fun _ _ _ h => h) (Or.inl ⟨by rfl, ?_⟩) (by assumption) ?_
            rotate_left
            · (intro w hSw; (try dsimp only at hSw); go_simp; try (with_reducible rfl))
            try simp only [Act.put, List.setIfInBounds_toArray, List.set_cons_zero, List.set_cons_succ]
            refine take_list (i := 27) (v := ?_) rfl (by kernel_rfl) (by kernel_rfl) (by kernel_rfl) (fun _ _ _ h => h) (Or.inl ⟨by rfl, ?_⟩) (by assumption) ?_
            rotate_left
            · (intro w hSw; (try dsimp only at hSw); go_simp; try (with_reducible rfl))
            try simp only [Act.put, List.setIfInBounds_toArray, List.set_cons_zero, List.set_cons_succ]
            refine wpAnyH_ready (rs := [23]) (by kernel_rfl) (by simp) ?_
            refine cons_list rfl (fun K hK => ?_) AllReadyH.nil
            go_simp
            (go_at_call 19; refine (CG.out _ hB6).mono ?_; rintro e w7 ⟨A9, c9, rfl, hr9, hB7⟩)
            refine hK.out _ _ (HC.out _ (by assumption)) (fun hHeld2 => ?_)
            clear hK K hHeld1
            try simp only [Act.put, List.setIfInBounds_toArray, List.set_cons_zero, List.set_cons_succ]
            refine wpAnyH_ready (rs := [28]) (by kernel_rfl) (by simp) ?_
            refine cons_list rfl (fun K hK => ?_) AllReadyH.nil
            go_simp
            (go_at_call 18; refine (CS.out A9 c9 _ hr9 hB7).mono ?_; rintro e w8 ⟨rfl, hB8⟩)
            refine hK.out _ _ (HC.out _ (by assumption)) (fun hHeld3 => ?_)
            clear hK K hHeld2
            try simp only [Act.put, List.setIfInBounds_toArray, List.set_cons_zero, List.set_cons_succ]
            refine take_list (i := 29) (v := ?_) rfl (by kernel_rfl) (by kernel_rfl) (by kernel_rfl) (fun _ _ _ h => h) (Or.inl ⟨by rfl, ?_⟩) (by assumption) ?_
            rotate_left
            · (intro w hSw; (try dsimp only at hSw); go_simp; try (with_reducible rfl))
            try simp only [Act.put, List.setIfInBounds_toArray, List.set_cons_zero, List.set_cons_succ]
            refine take_list (i := 30) (v := ?_) rfl (by kernel_rfl) (by kernel_rfl) (by kernel_rfl) (fun _ _ _ h => h) (Or.inl ⟨by rfl, ?_⟩) (by assumption) ?_
            rotate_left
            · (intro w hSw; (try dsimp only at hSw); go_simp; try (with_reducible rfl))
            try simp only [Act.put, List.setIfInBounds_toArray, List.set_cons_zero, List.set_cons_succ]
            refine take_list (i := 31) (v := ?_) rfl (by kernel_rfl) (by kernel_rfl) (by kernel_rfl) (fun _ _ _ h => h) (Or.inl ⟨by rfl, ?_⟩) (by assumption) ?_
            rotate_left
            · (intro w hSw; (try dsimp only at hSw); go_simp; try (with_reducible rfl))
            try simp only [Act.put, List.setIfInBounds_toArray, List.set_cons_zero, List.set_cons_succ]
            refine take_list (i := 32) (v := ?_) rfl (by kernel_rfl) (by kernel_rfl) (by kernel_rfl) (fun _ _ _ h => h) (Or.inl ⟨by rfl, ?_⟩) (by assumption) ?_
            rotate_left
            · (intro w hSw; (try dsimp only at hSw); go_simp; try (with_reducible rfl))
            try simp only [Act.put, List.setIfInBounds_toArray, List.set_cons_zero, List.set_cons_succ]
            refine take_list (i := 33) (v := ?_) rfl (by kernel_rfl) (by kernel_rfl) (by kernel_rfl) (fun _ _ _ h => h) (Or.inl ⟨by rfl, ?_⟩) (by assumption) ?_
            rotate_left
            · (intro w hSw; (try dsimp only at hSw); go_simp; try (with_reducible rfl))
            try simp only [Act.put, List.setIfInBounds_toArray, List.set_cons_zero, List.set_cons_succ]
            refine take_list (i := 34) (v := ?_) rfl (by kernel_rfl) (by kernel_rfl) (by kernel_rfl) (fun _ _ _ h => h) (Or.inl ⟨by rfl, ?_⟩) (by assumption) ?_
            rotate_left
            · (intro w hSw; (try dsimp only at hSw); go_simp; try (with_reducible rfl))
            try simp only [Act.put, List.setIfInBounds_toArray, List.set_cons_zero, List.set_cons_succ]
            refine take_list (i := 35) (v := ?_) rfl (by kernel_rfl) (by kernel_rfl) (by kernel_rfl) (fun _ _ _ h => h) (Or.inl ⟨by rfl, ?_⟩) (by assumption) ?_
            rotate_left
            · (intro w hSw; (try dsimp only at hSw); go_simp; try (with_reducible rfl))
            try simp only [Act.put, List.setIfInBounds_toArray, List.set_cons_zero, List.set_cons_succ]
            refine take_list (i := 36) (v := ?_) rfl (by kernel_rfl) (by kernel_rfl) (by kernel_rfl) (fun _ _ _ h => h) (Or.inl ⟨by rfl, ?_⟩) (by assumption) ?_
            rotate_left
            · (intro w hSw; (try dsimp only at hSw); go_simp; try (with_reducible rfl))
            try simp only [Act.put, List.setIfInBounds_toArray, List.set_cons_zero, List.set_cons_succ]
            refine take_list (i := 37) (v := ?_) rfl (by kernel_rfl) (by kernel_rfl) (by kernel_rfl) (fun _ _ _ h => h) (Or.inl ⟨by rfl, ?_⟩) (by assumption) ?_
            rotate_left
            · (intro w hSw; (try dsimp only at hSw); go_simp; try (with_reducible rfl))
            try simp only [Act.put, List.setIfInBounds_toArray, List.set_cons_zero, List.set_cons_succ]
            refine take_list (i := 38) (v := ?_) rfl (by kernel_rfl) (by kernel_rfl) (by kernel_rfl) (fun _ _ _ h => h) (Or.inl ⟨by rfl, ?_⟩) (by assumption) ?_
            rotate_left
            · (intro w hSw; (try dsimp only at hSw); go_simp; try (with_reducible rfl))
            try simp only [Act.put, List.setIfInBounds_toArray, List.set_cons_zero, List.set_cons_succ]
            refine take_list (i := 39) (v := ?_) rfl (by kernel_rfl) (by kernel_rfl) (by kernel_rfl) (fun _ _ _ h => h) (Or.inl ⟨by rfl, ?_⟩) (by assumption) ?_
            rotate_left
            · (intro w hSw; (try dsimp only at hSw); go_simp; try (with_reducible rfl))
            try simp only [Act.put, List.setIfInBounds_toArray, List.set_cons_zero, List.set_cons_succ]
            refine wpAnyH_done (by kernel_rfl) ?_ _
            clear hHeld3
            have S8 := Lib.hid (S5.out.call hB8)
            have T8 := Lib.hid (T5.out.call hB8)
            have Z8 := Lib.hid (Z5.out.call hB8)
            have K8 := Lib.hid (K5.out.call hB8)
            clear hBd hr9 hB6 hB7 hB8 hq1 hq2 hq3 hq4
            go_wp2_with fail
            go_loopw [15] (fun sq wx => ∃ (q : Nat), q ≤ j ∧ sq = .int .i64 q ∧ TS w wx ow5 ∧ TabT wx ow5 3 bt bm 100 L5 A5 c5 ∧ RowT wx ow5 1 Z (some ⟨b, o, none⟩) d ∧ IdT wx ow5 K (some ⟨b', o', none⟩) f) (fun sq _ => j - (intOf sq).toNat)
            case atStart => exact ⟨0, Nat.zero_le _, rfl, S8.out, T8.out, Z8.out, K8.out⟩
            case round =>
              obtain ⟨q, hq, rfl, hS, hT, hZ, hK⟩ := hrel
              have S9 := Lib.hid hS
              have T9 := Lib.hid hT
              have Z9 := Lib.hid hZ
              have K9 := Lib.hid hK
              clear hS hT hZ hK
              obtain ⟨wo, hwo⟩ : ∃ x, x = wr := ⟨_, rfl⟩
              by_cases hqj : q < j
              · obtain ⟨y, hy⟩ : ∃ y, Z[q]? = some y := ⟨_, List.getElem?_eq_getElem (by omega)⟩
                obtain ⟨hm', -, hk'⟩ := HP.out.each q y.1 (by rw [List.getElem?_map, hy]; rfl)
                have heq := HIX.out y.1 hm'
                clear hm'
                generalize (L.map (·.1)).idxOf y.1 = iy at *
                have hbe : ((ix : Int) == (iy : Int)) = decide (z.1 = y.1) := by
                  by_cases e : z.1 = y.1
                  · rw [decide_eq_true e]; have := heq.2 e; subst this; simp
                  · rw [decide_eq_false e]
                    rw [beq_eq_false_iff_ne]
                    intro e'
                    exact e (heq.1 (by omega))
                clear heq
                have HYJ := Lib.hid hy
                have HYM := Lib.hid (List.mem_of_getElem? hy)
                have HKQ := Lib.hid hk'
                have hq0 : (0 : Int) ≤ (q : Int) := by omega
                have hqi : (q : Int) < (i : Int) := by omega
                have hqi' : q < i := by omega
                clear hy hk' hwo
                have HC : Hid (∀ wy, Below wr.heap.size wr wy → wy.cell? ⟨b', o' + j, none⟩ = some (.int .i64 (ix : Int)) ∧ wy.cell? ⟨b', o' + q, none⟩ = some (.int .i64 (iy : Int)) ∧ (wy.cell? ⟨b, o + j * 3, none⟩ = some (.int .i64 z.1.kind) ∧ wy.cell? ⟨b, o + j * 3 + 1, none⟩ = some (.int .i64 z.1.cost) ∧ wy.cell? ⟨b, o + j * 3 + 2, none⟩ = some (.slice z.2.1 z.1.path.length z.2.2)) ∧ wy.cell? ⟨b, o + q * 3, none⟩ = some (.int .i64 y.1.kind) ∧ wy.cell? ⟨b, o + q * 3 + 1, none⟩ = some (.int .i64 y.1.cost) ∧ wy.cell? ⟨b, o + q * 3 + 2, none⟩ = some (.slice y.2.1 y.1.path.length y.2.2)) := Lib.hid (fun wy hb => by
                  obtain ⟨_, _, e, -, z0, z1, z2⟩ := ((Z9.out.call hb).rts.at_ HZJ.out)
                  obtain ⟨_, _, e', -, k0⟩ := (K9.out.call hb).row.rd.one (i := j) (x := .int .i64 (ix : Int)) (by unfold ints; rw [List.getElem?_map, HKJ.out]; rfl)
                  injection e with e
                  injection e with e1 e2
                  subst e1 e2
                  injection e' with e'
                  injection e' with e1 e2
                  subst e1 e2
                  obtain ⟨_, _, e, -, y0, y1, y2⟩ := ((Z9.out.call hb).rts.at_ HYJ.out)
                  obtain ⟨_, _, e', -, k1⟩ := (K9.out.call hb).row.rd.one (i := q) (x := .int .i64 (iy : Int)) (by unfold ints; rw [List.getElem?_map, HKQ.out]; rfl)
                  injection e with e
                  injection e with e1 e2
                  subst e1 e2
                  injection e' with e'
                  injection e' with e1 e2
                  subst e1 e2
                  exact ⟨k0, k1, ⟨z0, z1, z2⟩, y0, y1, y2⟩)
                have CS : Hid (∀ wy, Below wr.heap.size wr wy → Calls Tryd.prog 18 #[.agg #[.int .i64 z.1.kind, .int .i64 z.1.cost, .slice z.2.1 z.1.path.length z.2.2], .agg #[.int .i64 y.1.kind, .int .i64 y.1.cost, .slice y.2.1 y.1.path.length y.2.2]] wy fun e w' => e = .returned (.bool (decide (z.1 = y.1))) ∧ Below wr.heap.size wr w') := Lib.hid (fun wy hb =>
                  (refSame_any z.1 y.1 z.2.1 y.2.1 z.2.2 y.2.2 wy ((Z9.out.call hb).each z HZM.out).rt ((Z9.out.call hb).each y HYM.out).rt).mono fun e w' ⟨h1, h2⟩ => ⟨h1, since_trans hb h2⟩)
                generalize decide (z.1 = y.1) = bb at *
                have hbb : (bb != bb) = false := by simp
                go_upto_region 24 with fail
                have hBd : Below wr.heap.size wr wr.drew := below_drew (Below.refl _ _)
                refine wp_region_held_drew (S := (fun wy => wy.cell? ⟨b', o' + j, none⟩ = some (.int .i64 (ix : Int)) ∧ wy.cell? ⟨b', o' + q, none⟩ = some (.int .i64 (iy : Int)) ∧ (wy.cell? ⟨b, o + j * 3, none⟩ = some (.int .i64 z.1.kind) ∧ wy.cell? ⟨b, o + j * 3 + 1, none⟩ = some (.int .i64 z.1.cost) ∧ wy.cell? ⟨b, o + j * 3 + 2, none⟩ = some (.slice z.2.1 z.1.path.length z.2.2)) ∧ wy.cell? ⟨b, o + q * 3, none⟩ = some (.int .i64 y.1.kind) ∧ wy.cell? ⟨b, o + q * 3 + 1, none⟩ = some (.int .i64 y.1.cost) ∧ wy.cell? ⟨b, o + q * 3 + 2, none⟩ = some (.slice y.2.1 y.1.path.length y.2.2))) (by kernel_rfl) (HC.out _ hBd) (fun hHeld0 => ?_)
                refine take_list (i := 0) (v := ?_) rfl (by kernel_rfl) (by kernel_rfl) (by kernel_rfl) (fun _ _ _ h => h) (Or.inl ⟨by rfl, ?_⟩) (by assumption) ?_
                rotate_left
                · (intro w hSw; (try dsimp only at hSw); go_simp; try (with_reducible rfl))
                try simp only [Act.put, List.setIfInBounds_toArray, List.set_cons_zero, List.set_cons_succ]
                refine take_list (i := 1) (v := ?_) rfl (by kernel_rfl) (by kernel_rfl) (by kernel_rfl) (fun _ _ _ h => h) (Or.inl ⟨by rfl, ?_⟩) (by assumption) ?_
                rotate_left
                · (intro w hSw; (try dsimp only at hSw); go_simp; try (with_reducible rfl))
                try simp only [Act.put, List.setIfInBounds_toArray, List.set_cons_zero, List.set_cons_succ]
                refine take_list (i := 2) (v := ?_) rfl (by kernel_rfl) (by kernel_rfl) (by kernel_rfl) (fun _ _ _ h => h) (Or.inl ⟨by rfl, ?_⟩) (by assumption) ?_
                rotate_left
                · (intro w hSw; (try dsimp only at hSw); go_simp; try (with_reducible rfl))
                try simp only [Act.put, List.setIfInBounds_toArray, List.set_cons_zero, List.set_cons_succ]
                refine take_list (i := 3) (v := ?_) rfl (by kernel_rfl) (by kernel_rfl) (by kernel_rfl) (fun _ _ _ h => h) (Or.inl ⟨by rfl, ?_⟩) (by assumption) ?_
                rotate_left
                · (intro w hSw; (try dsimp only at hSw); go_simp; try (with_reducible rfl))
                try simp only [Act.put, List.setIfInBounds_toArray, List.set_cons_zero, List.set_cons_succ]
                refine take_list (i := 4) (v := ?_) rfl (by kernel_rfl) (by kernel_rfl) (by kernel_rfl) (fun _ _ _ h => h) (Or.inl ⟨by rfl, ?_⟩) (by assumption) ?_
                rotate_left
                · (intro w hSw; (try dsimp only at hSw); go_simp; try (with_reducible rfl))
                try simp only [Act.put, List.setIfInBounds_toArray, List.set_cons_zero, List.set_cons_succ]
                refine take_list (i := 5) (v := ?_) rfl (by kernel_rfl) (by kernel_rfl) (by kernel_rfl) (fun _ _ _ h => h) (Or.inl ⟨by rfl, ?_⟩) (by assumption) ?_
                rotate_left
                · (intro w hSw; (try dsimp only at hSw); go_simp; try (with_reducible rfl))
                try simp only [Act.put, List.setIfInBounds_toArray, List.set_cons_zero, List.set_cons_succ]
                refine take_list (i := 6) (v := ?_) rfl (by kernel_rfl) (by kernel_rfl) (by kernel_rfl) (fun _ _ _ h => h) (Or.inl ⟨by rfl, ?_⟩) (by assumption) ?_
                rotate_left
                · (intro w hSw; (try dsimp only at hSw); go_simp; try (with_reducible rfl))
                try simp only [Act.put, List.setIfInBounds_toArray, List.set_cons_zero, List.set_cons_succ]
                refine take_list (i := 7) (v := ?_) rfl (by kernel_rfl) (by kernel_rfl) (by kernel_rfl) (fun _ _ _ h => h) (Or.inl ⟨by rfl, ?_⟩) (by assumption) ?_
                rotate_left
                · (intro w hSw; (try dsimp only at hSw); go_simp; try (with_reducible rfl))
                try simp only [Act.put, List.setIfInBounds_toArray, List.set_cons_zero, List.set_cons_succ]
                refine take_list (i := 8) (v := ?_) rfl (by kernel_rfl) (by kernel_rfl) (by kernel_rfl) (fun _ _ _ h => h) (Or.inl ⟨by rfl, ?_⟩) (by assumption) ?_
                rotate_left
                · (intro w hSw; (try dsimp only at hSw); go_simp; try (with_reducible rfl))
                try simp only [Act.put, List.setIfInBounds_toArray, List.set_cons_zero, List.set_cons_succ]
                refine take_list (i := 9) (v := ?_) rfl (by kernel_rfl) (by kernel_rfl) (by kernel_rfl) (fun _ _ _ h => h) (Or.inl ⟨by rfl, ?_⟩) (by assumption) ?_
                rotate_left
                · (intro w hSw; (try dsimp only at hSw); go_simp; try (with_reducible rfl))
                try simp only [Act.put, List.setIfInBounds_toArray, List.set_cons_zero, List.set_cons_succ]
                refine take_list (i := 10) (v := ?_) rfl (by kernel_rfl) (by kernel_rfl) (by kernel_rfl) (fun _ _ _ h => h) (Or.inl ⟨by rfl, ?_⟩) (by assumption) ?_
                rotate_left
                · (intro w hSw; (try dsimp only at hSw); go_simp; try (with_reducible rfl))
                try simp only [Act.put, List.setIfInBounds_toArray, List.set_cons_zero, List.set_cons_succ]
                refine take_list (i := 11) (v := ?_) rfl (by kernel_rfl) (by kernel_rfl) (by kernel_rfl) (fun _ _ _ h => h) (Or.inl ⟨by rfl, ?_⟩) (by assumption) ?_
                rotate_left
                · (intro w hSw; (try dsimp only at hSw); go_simp; try (with_reducible rfl))
                try simp only [Act.put, List.setIfInBounds_toArray, List.set_cons_zero, List.set_cons_succ]
                refine take_list (i := 12) (v := ?_) rfl (by kernel_rfl) (by kernel_rfl) (by kernel_rfl) (fun _ _ _ h => h) (Or.inl ⟨by rfl, ?_⟩) (by assumption) ?_
                rotate_left
                · (intro w hSw; (try dsimp only at hSw); go_simp; try (with_reducible rfl))
                try simp only [Act.put, List.setIfInBounds_toArray, List.set_cons_zero, List.set_cons_succ]
                refine take_list (i := 13) (v := ?_) rfl (by kernel_rfl) (by kernel_rfl) (by kernel_rfl) (fun _ _ _ h => h) (Or.inl ⟨by rfl, ?_⟩) (by assumption) ?_
                rotate_left
                · (intro w hSw; (try dsimp only at hSw); go_simp; try (with_reducible rfl))
                try simp only [Act.put, List.setIfInBounds_toArray, List.set_cons_zero, List.set_cons_succ]
                refine take_list (i := 14) (v := ?_) rfl (by kernel_rfl) (by kernel_rfl) (by kernel_rfl) (fun _ _ _ h => h) (Or.inl ⟨by rfl, ?_⟩) (by assumption) ?_
                rotate_left
                · (intro w hSw; (try dsimp only at hSw); go_simp; try (with_reducible rfl))
                try simp only [Act.put, List.setIfInBounds_toArray, List.set_cons_zero, List.set_cons_succ]
                refine take_list (i := 15) (v := ?_) rfl (by kernel_rfl) (by kernel_rfl) (by kernel_rfl) (fun _ _ _ h => h) (Or.inl ⟨by rfl, ?_⟩) (by assumption) ?_
                rotate_left
                · (intro w hSw; (try dsimp only at hSw); go_simp; try (with_reducible rfl))
                try simp only [Act.put, List.setIfInBounds_toArray, List.set_cons_zero, List.set_cons_succ]
                refine take_list (i := 16) (v := ?_) rfl (by kernel_rfl) (by kernel_rfl) (by kernel_rfl) (fun _ _ _ h => h) (Or.inl ⟨by rfl, ?_⟩) (by assumption) ?_
                rotate_left
                · (intro w hSw; (try dsimp only at hSw); go_simp; try (with_reducible rfl))
                try simp only [Act.put, List.setIfInBounds_toArray, List.set_cons_zero, List.set_cons_succ]
                refine wpAnyH_ready (rs := [17]) (by kernel_rfl) (by simp) ?_
                refine cons_list rfl (fun K hK => ?_) AllReadyH.nil
                go_simp
                (go_at_call 18; refine (CS.out _ hBd).mono ?_; rintro e w10 ⟨rfl, hB10⟩)
                refine hK.out _ _ (HC.out _ (by assumption)) (fun hHeld1 => ?_)
                clear hK K hHeld0
                try simp only [Act.put, List.setIfInBounds_toArray, List.set_cons_zero, List.set_cons_succ]
                refine take_list (i := 18) (v := ?_) rfl (by kernel_rfl) (by kernel_rfl) (by kernel_rfl) (fun _ _ _ h => h) (Or.inl ⟨by rfl, ?_⟩) (by assumption) ?_
                rotate_left
                · (intro w hSw; (try dsimp only at hSw); go_simp; try (with_reducible rfl))
                try simp only [Act.put, List.setIfInBounds_toArray, List.set_cons_zero, List.set_cons_succ]
                refine wpAnyH_done (by kernel_rfl) ?_ _
                clear hHeld1
                have SA := Lib.hid (S9.out.call hB10)
                have TA := Lib.hid (T9.out.call hB10)
                have ZA := Lib.hid (Z9.out.call hB10)
                have KA := Lib.hid (K9.out.call hB10)
                clear hBd hB10
                go_wp2
                go_roundw
                case rel => exact ⟨q + 1, by omega, by go_num, SA.out, TA.out, ZA.out, KA.out⟩
                case measure => simp [intOf]; omega
              · go_wp2
                go_roundw
                case rel => exact ⟨j + 1, ow5, L5, A5, c5, by omega, by go_num, S9.out, T9.out, HL5.out, Z9.out, K9.out⟩
                case measure => simp [intOf]; omega
          · have hw1 : IntKind.i64.wrap ((i : Int) + 1) = (i : Int) + 1 := IntWalk.i64_in _ (by omega)
            have hd1 : decide ((L.length : Int) ≤ (i : Int) + 1) = true := decide_eq_true (by omega)
            have hd2 : ((L.length : Int) == (L.length : Int)) = true := by simp
            go_wp2_with fail
            refine (size8_any T4.out).mono ?_
            rintro e w5 ⟨rfl, hb5⟩
            rw [HL2l.out]
            have S5 := Lib.hid (S4.out.call hb5)
            clear hb5
            go_wp2
            go_ret
            exact ⟨rfl, S5.out.base⟩)
end Go.Proofs.YtjdnkbpclhldfaaDoor

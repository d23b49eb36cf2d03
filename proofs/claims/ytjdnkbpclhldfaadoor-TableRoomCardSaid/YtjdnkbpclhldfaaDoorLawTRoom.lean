/- The walk of backstaylaw08.TableRoom. -/
import Derived.Test.YtjdnkbpclhldfaaDoorLawTOrder
namespace Go.Proofs.YtjdnkbpclhldfaaDoor
set_option linter.unusedSimpArgs false
set_option linter.unusedVariables false
open Go.RowKit

/-- What is kept of the two tables: T the beginning of U; the same, as long as nothing failed. -/
structure RoomP (k : Int) (T U : List Rt) (fl : Bool) : Prop where
  pre : T = U.take k.toNat
  eq : fl = false → T = U
theorem RoomP.step {k : Int} {T U : List Rt} {fl : Bool} (h : RoomP k T U fl) (hk : 1 ≤ k) (hk2 : k ≤ 100) (hU : (U.length : Int) < 100) {r : Rt} (hr : RtOk r) :
    addGE 100 U r = 0 ∧ ((addGE k T r = 0 ∧ (fl = false → addGN k T r = addGN 100 U r) ∧ RoomP k (addGL k T r) (addGL 100 U r) fl) ∨
      (addGE k T r = 60 ∧ addGN k T r = 0 ∧ addGL k T r = T ∧ (T.length : Int) = k ∧ findG T r = -1 ∧ RoomP k T (addGL 100 U r) true)) := by
  have hrr := hr.right
  have g1 : ∀ (m : Int) (L : List Rt), addGE m L r = addE m L r ∧ addGN m L r = addN m L r ∧ addGL m L r = addL m L r := fun m L => by
    unfold addGE addGN addGL; rw [if_pos hrr, if_pos hrr, if_pos hrr]; exact ⟨rfl, rfl, rfl⟩
  have hf : findG T r = findT T r := by unfold findG; rw [if_pos hrr]
  rw [(g1 100 U).1, (g1 k T).1, (g1 k T).2.1, (g1 100 U).2.1, (g1 k T).2.2, (g1 100 U).2.2, hf]
  obtain ⟨h1, -, h3, h4⟩ := add_take (by omega) hk2 h.pre hU r
  refine ⟨h4, ?_⟩
  by_cases he : addE k T r = 0
  · left
    refine ⟨he, fun hfl => ?_, h1, fun hfl => ?_⟩
    · have e := h.eq hfl
      rw [← e]
      unfold addE at he
      unfold addN
      by_cases hm : r ∈ T
      · rw [if_pos hm, if_pos hm]
      · rw [if_neg hm] at he ⊢
        rw [if_neg hm]
        by_cases hq : k ≤ (T.length : Int)
        · rw [if_pos hq] at he; simp at he
        · rw [if_neg hq, if_neg (by omega)]
    · have e := h.eq hfl
      rw [← e]
      unfold addE at he
      unfold addL
      by_cases hm : r ∈ T
      · rw [if_pos hm, if_pos hm]
      · rw [if_neg hm] at he ⊢
        rw [if_neg hm]
        by_cases hq : k ≤ (T.length : Int)
        · rw [if_pos hq] at he; simp at he
        · rw [if_neg hq, if_neg (by omega)]
  · right
    obtain ⟨a1, a2, a3, a4⟩ := h3 he
    have hm : r ∉ T := fun hm => he (add_there hm).1
    have hl : addL k T r = T := by unfold addL; rw [if_neg hm, if_pos (by omega)]
    exact ⟨a1, a4, hl, a2, a3, by rw [hl] at h1; exact h1, fun h => by cases h⟩
theorem addG_len {most : Int} {L : List Rt} {r : Rt} : (addGL most L r).length ≤ L.length + 1 := by
  unfold addGL addL
  split
  · split
    · omega
    · split
      · omega
      · simp
  · omega

attribute [local go_sem ↓] Go.wp_at_zero Go.wp_at_succ
set_option maxRecDepth 100000 in
set_option maxHeartbeats 8000000 in
theorem tableRoom_walk (a0 : Option Addr) (c0 : Nat) (l0 : List (List Int)) (V0 : List (Option Addr × Nat)) (n1 : Int) (w : World) (h0 : RowsIn w a0 c0 l0 V0) (k1 : In64 n1) (ht : Tab w) :
    Calls Tryd.prog 5 #[.slice a0 l0.length c0, .int .i64 n1] w fun e w' => e = .returned (.bool true) ∧ Below w.heap.size w w' := by
  have HT := Lib.hid ht
  have H0 := Lib.hid h0
  have I1 := Lib.hid k1
  have H30 : Hid ((3 : Nat) ≠ 0) := Lib.hid (by decide)
  have H40 : Hid ((4 : Nat) ≠ 0) := Lib.hid (by decide)
  have H39 : Hid ((3 : Nat) ≠ 9) := Lib.hid (by decide)
  have H49 : Hid ((4 : Nat) ≠ 9) := Lib.hid (by decide)
  have H34 : Hid ((3 : Nat) ≠ 4) := Lib.hid (by decide)
  have H43 : Hid ((4 : Nat) ≠ 3) := Lib.hid (by decide)
  have hl0 : l0.length ≤ maxLen := Nat.le_trans h0.le h0.max
  unfold maxLen at hl0
  clear ht h0 k1
  go_enter Tryd.func5, Tryd.ntmps5
  go_wp2_with fail
  refine (awake8 w HT.out).mono ?_
  rintro e w1 ⟨rfl, hb1⟩
  have S1 := Lib.hid ((TS.begin w).call hb1)
  clear hb1
  go_wp2_with fail
  refine (pick8_any n1 12 _ I1.out (by omega) (by omega)).mono ?_
  rintro e w' ⟨rfl, rfl⟩
  have hp := pickV_in (c := n1) (n := 12) (by omega)
  generalize pickV n1 12 = q at *
  obtain ⟨hp0, hp1⟩ := hp
  go_upto_region 3 with fail
  obtain ⟨k, hk⟩ : ∃ k, k = 1 + q := ⟨_, rfl⟩
  rw [← hk]
  have hk1 : 1 ≤ k := by omega
  have hk12 : k ≤ 12 := by omega
  clear hk hp0 hp1
  go_wp2_with fail
  refine (new8_any k hk1 (by omega) w1 (fun _ => 9) 3 H30.out (S1.out.tab0 HT.out)).mono ?_
  rintro e w2 ⟨bt, bm, L, A, c, ow, rfl, hL, hag, htab, hb2⟩
  have T2 := Lib.hid htab
  have S2 := Lib.hid ((S1.out.retag hag).call hb2)
  have HL := Lib.hid hL
  clear hL hag htab hb2
  go_wp2_with fail
  refine (new8_any 100 (by decide) (by decide) w2 ow 4 H40.out (S2.out.tab0 HT.out)).mono ?_
  rintro e w3 ⟨bu, bn, M, B, d, ow3, rfl, hM, hag3, htab3, hb3⟩
  have U3 := Lib.hid htab3
  have T3 := Lib.hid ((T2.out.retag hag3).call hb3)
  have S3 := Lib.hid ((S2.out.retag hag3).call hb3)
  have HM := Lib.hid hM
  clear hM hag3 htab3 hb3
  go_wp2_with fail
  go_loopw [9, 10] (fun sf si wx => ∃ (i : Nat) (fl : Bool) (ow : Nat → Nat) (L : List RtZ) (A : Option Addr) (c : Nat) (M : List RtZ) (B : Option Addr) (d : Nat), i ≤ l0.length ∧ i ≤ 30 ∧ si = .int .i64 i ∧ sf = .bool fl ∧ TS w wx ow ∧ TabT wx ow 3 bt bm k L A c ∧ TabT wx ow 4 bu bn 100 M B d ∧ M.length ≤ i + 1 ∧ RoomP k (L.map (·.1)) (M.map (·.1)) fl) (fun _ si _ => 30 - (intOf si).toNat)
  case atStart =>
    refine ⟨0, false, ow3, L, A, c, M, B, d, Nat.zero_le _, by omega, rfl, rfl, S3.out, T3.out, U3.out, by have := congrArg List.length HM.out; simp at this; omega, ?_⟩
    rw [HL.out, HM.out]
    refine ⟨?_, fun _ => rfl⟩
    rw [List.take_of_length_le (by simp; omega)]
  case round =>
    obtain ⟨i, fl, ow, L, A, c, M, B, d, hi, hi30, rfl, rfl, hS, hT, hU, hMi, hR⟩ := hrel
    have SX := Lib.hid hS
    have TX := Lib.hid hT
    have UX := Lib.hid hU
    have HR := Lib.hid hR
    have hM31 : M.length ≤ 31 := by omega
    have hL31 : L.length ≤ 31 := by
      have := congrArg List.length hR.pre
      rw [List.length_take, List.length_map, List.length_map] at this
      omega
    clear hS hT hU hR
    by_cases hlt : i < l0.length ∧ (i : Int) < 30
    · obtain ⟨hlt, h30⟩ := hlt
      have RX := Lib.hid (H0.out.call SX.out.base)
      obtain ⟨z, hz⟩ : ∃ z, (l0.zip V0)[i]? = some z := ⟨_, List.getElem?_eq_getElem (by have := RX.out.len; rw [List.length_zip]; omega)⟩
      obtain ⟨b, o, rfl, hb, hc⟩ := RX.out.row.one (i := i) (x := rowV z) (by rw [List.getElem?_map, hz]; rfl)
      have IR := Lib.hid (RX.out.each z (List.mem_of_getElem? hz))
      have hi0 : (0 : Int) ≤ (i : Int) := by omega
      unfold rowV at hc
      clear hz hb
      go_wp2_with fail
      refine (route_any z.1 z.2.1 z.2.2 _ IR.out.rd IR.out.in64 IR.out.len).mono ?_
      rintro e w4 ⟨A3, c3, rfl, ho3, hb3⟩
      have HOK := Lib.hid (routeR_ok z.1)
      generalize routeR z.1 = r at *
      obtain ⟨ow1, ho1, ho2⟩ := tag_new wr ow 0
      have hbo : Below w4.heap.size w4 (w4.alloc (.cells #[.int .i64 r.kind, .int .i64 r.cost, .slice A3 r.path.length c3] 25)) := (Below.refl _ _).alloc (Nat.le_refl _) _
      have S4 := Lib.hid (((SX.out.retag ho1).call hb3).call hbo)
      have T4 := Lib.hid (((TX.out.retag ho1).call hb3).call hbo)
      have U4 := Lib.hid (((UX.out.retag ho1).call hb3).call hbo)
      have R4 := Lib.hid (RB.new ho2 hb3.size (.inl ho3))
      have HST := Lib.hid (HR.out.step hk1 (by omega) (by rw [List.length_map]; omega) HOK.out)
      clear hbo ho1 ho2 ho3 hb3 hc
      unfold rtV
      go_upto_region 10 with fail
      generalize (w4.alloc (.cells #[.int .i64 r.kind, .int .i64 r.cost, .slice A3 r.path.length c3] 25)) = w5 at *
      generalize w4.heap.size = bo at *
      obtain ⟨b0, b1, b2⟩ := R4.out.at_
      go_wp2_with fail
      refine (add8_any r A3 c3 T4.out H30.out (R4.out.rtT H30.out) (S4.out.tab HT.out H39.out) (by omega)).mono ?_
      rintro e w6 hp
      obtain ⟨L', A', c', ow', rfl, hL', hag, htab, hch, hs⟩ := hp.ts S4.out H39.out
      have T6 := Lib.hid htab
      have U6 := Lib.hid (U4.out.step hag hch H34.out H30.out)
      have R6 := Lib.hid (R4.out.step hag hch H30.out)
      have S6 := Lib.hid hs
      have HL' := Lib.hid hL'
      clear hp htab hs hag hch hL' b0 b1 b2
      obtain ⟨b0, b1, b2⟩ := R6.out.at_
      go_wp2_with fail
      refine (add8_any r A3 c3 U6.out H40.out (R6.out.rtT H40.out) (S6.out.tab HT.out H49.out) (by omega)).mono ?_
      rintro e w7 hp
      obtain ⟨M', B', d', ow'', rfl, hM', hag, htab, hch, hs⟩ := hp.ts S6.out H49.out
      have U7 := Lib.hid htab
      have T7 := Lib.hid (T6.out.step hag hch H43.out H40.out)
      have R7 := Lib.hid (R6.out.step hag hch H40.out)
      have S7 := Lib.hid hs
      have HM' := Lib.hid hM'
      have hM'l : M'.length ≤ i + 1 + 1 := by
        have h1 := congrArg List.length hM'
        rw [List.length_map] at h1
        have h2 := addG_len (most := 100) (L := M.map (·.1)) (r := r)
        rw [List.length_map] at h2
        omega
      clear hp htab hs hag hch hM' b0 b1 b2
      obtain ⟨hE, hcase⟩ := HST.out
      rw [hE]
      rcases hcase with ⟨h1, h2, h3⟩ | ⟨h1, h2, h3, h4, h5, h6⟩
      · rw [h1]
        have HRN : Hid (RoomP k (L'.map (·.1)) (M'.map (·.1)) fl) := Lib.hid (by rw [HL'.out, HM'.out]; exact h3)
        cases fl with
        | true =>
          clear h1 h2 h3 hE
          go_wp2
          go_roundw
          case rel => exact ⟨i + 1, true, ow'', L', A', c', M', B', d', by omega, by omega, by go_num, rfl, S7.out, T7.out, U7.out, by omega, HRN.out⟩
          case measure => simp [intOf]; omega
        | false =>
          rw [h2 rfl]
          generalize addGN 100 (M.map (·.1)) r = qa at *
          have hqa : (qa != qa) = false := by simp
          clear h1 h2 h3 hE
          go_wp2
          go_roundw
          case rel => exact ⟨i + 1, false, ow'', L', A', c', M', B', d', by omega, by omega, by go_num, rfl, S7.out, T7.out, U7.out, by omega, HRN.out⟩
          case measure => simp [intOf]; omega
      · rw [h1, h2]
        have hLL : L'.map (·.1) = L.map (·.1) := by rw [HL'.out]; exact h3
        have HRN : Hid (RoomP k (L'.map (·.1)) (M'.map (·.1)) true) := Lib.hid (by rw [hLL, HM'.out]; exact h6)
        have hlk : (L'.length : Int) = k := by
          have := congrArg List.length hLL
          rw [List.length_map, List.length_map] at this
          rw [List.length_map] at h4; omega
        have HFG := Lib.hid (show findG (L'.map (·.1)) r = -1 from by rw [hLL]; exact h5)
        have HLK := Lib.hid hlk
        have hqk : (k != k) = false := by simp
        clear h1 h2 h3 h4 h5 h6 hE hLL hlk
        go_wp2_with fail
        refine (size8_any T7.out).mono ?_
        rintro e w8 ⟨rfl, hb8⟩
        rw [HLK.out]
        have T8 := Lib.hid (T7.out.call hb8)
        have U8 := Lib.hid (U7.out.call hb8)
        have S8 := Lib.hid (S7.out.call hb8)
        have R8 := Lib.hid (R7.out.call hb8)
        clear hb8
        obtain ⟨b0, b1, b2⟩ := R8.out.at_
        go_wp2_with fail
        refine (find8_any r A3 c3 T8.out (R8.out.rtT H30.out).1 (S8.out.tab0 HT.out)).mono ?_
        rintro e w9 ⟨rfl, hb9⟩
        rw [HFG.out]
        have T9 := Lib.hid (T8.out.call hb9)
        have U9 := Lib.hid (U8.out.call hb9)
        have S9 := Lib.hid (S8.out.call hb9)
        clear hb9 b0 b1 b2
        go_wp2
        go_roundw
        case rel => exact ⟨i + 1, true, ow'', L', A', c', M', B', d', by omega, by omega, by go_num, rfl, S9.out, T9.out, U9.out, by omega, HRN.out⟩
        case measure => simp [intOf]; omega
    · have hx : (i < l0.length ∧ ¬ (i : Int) < 30) ∨ ¬ i < l0.length := by
        by_cases h1 : i < l0.length
        · exact .inl ⟨h1, fun h => hlt ⟨h1, h⟩⟩
        · exact .inr h1
      have hmin : (L.length : Int) = min (M.length : Int) k := by
        have := congrArg List.length HR.out.pre
        rw [List.length_take, List.length_map, List.length_map] at this
        omega
      have HMIN := Lib.hid hmin
      clear hlt hmin
      rcases hx with ⟨h1, h2⟩ | h1 <;> (
        go_wp2_with fail
        refine (size8_any TX.out).mono ?_
        rintro e w3 ⟨rfl, hb3⟩
        have U3 := Lib.hid (UX.out.call hb3)
        have S3 := Lib.hid (SX.out.call hb3)
        clear hb3
        rw [HMIN.out]
        go_wp2_with fail
        refine (size8_any U3.out).mono ?_
        rintro e w4 ⟨rfl, hb4⟩
        have S4 := Lib.hid (S3.out.call hb4)
        clear hb4
        have hqm : (min (M.length : Int) k == min (M.length : Int) k) = true := by simp
        go_wp2
        go_ret
        exact ⟨rfl, S4.out.base⟩)
end Go.Proofs.YtjdnkbpclhldfaaDoor

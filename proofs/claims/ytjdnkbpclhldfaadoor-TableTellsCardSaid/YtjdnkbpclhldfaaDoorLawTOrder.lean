/- The walk of backstaylaw08.TableOrder. -/
import Derived.Test.YtjdnkbpclhldfaaDoorLaw8
namespace Go.Proofs.YtjdnkbpclhldfaaDoor
set_option linter.unusedSimpArgs false
set_option linter.unusedVariables false
open Go.RowKit

theorem find_first {L : List Rt} (h : L[0]? = some rtNone) : findG L rtNone = 0 := by
  cases L with
  | nil => simp at h
  | cons x L =>
    simp at h; subst h
    unfold findG findT
    rw [if_pos (by decide), if_pos (by simp)]
    simp
theorem get_out (L : List Rt) : getT L (-1) = rtNone ∧ getT L (L.length : Int) = rtNone := by
  constructor
  · rfl
  · unfold getT; rw [if_pos (by omega), Int.toNat_natCast, List.getElem?_eq_none (Nat.le_refl _)]; rfl
theorem add_first {most : Int} {L : List Rt} {r : Rt} (h : L[0]? = some rtNone) : (addGL most L r)[0]? = some rtNone := by
  have hl : 0 < L.length := (List.getElem?_eq_some_iff.1 h).1
  unfold addGL addL
  split
  · split
    · exact h
    · split
      · exact h
      · rw [List.getElem?_append_left hl]; exact h
  · exact h
/-- What Add does where there is room. -/
theorem add_ok {most : Int} {L : List Rt} {r : Rt} (hr : RtOk r) (hm : (L.length : Int) < most) : addGE most L r = 0 ∧
    ((r ∈ L ∧ addGL most L r = L ∧ addGN most L r = ((L.idxOf r : Nat) : Int) ∧ findG L r = ((L.idxOf r : Nat) : Int)) ∨ (r ∉ L ∧ addGL most L r = L ++ [r] ∧ addGN most L r = (L.length : Int) ∧ findG L r = -1)) := by
  have hrr := hr.right
  unfold addGE addGL addGN findG
  rw [if_pos hrr, if_pos hrr, if_pos hrr, if_pos hrr]
  unfold addE addL addN findT
  by_cases h : r ∈ L
  · rw [if_pos h, if_pos h, if_pos h, if_pos h]; exact ⟨rfl, .inl ⟨h, rfl, rfl, rfl⟩⟩
  · rw [if_neg h, if_neg h, if_neg h, if_neg h, if_neg (by omega), if_neg (by omega), if_neg (by omega)]; exact ⟨rfl, .inr ⟨h, rfl, rfl, rfl⟩⟩

attribute [local go_sem ↓] Go.wp_at_zero Go.wp_at_succ
set_option maxRecDepth 100000 in
set_option maxHeartbeats 8000000 in
theorem tableOrder_walk (a0 : Option Addr) (c0 : Nat) (l0 : List (List Int)) (V0 : List (Option Addr × Nat)) (w : World) (h0 : RowsIn w a0 c0 l0 V0) (ht : Tab w) :
    Calls Tryd.prog 6 #[.slice a0 l0.length c0] w fun e w' => e = .returned (.bool true) ∧ Below w.heap.size w w' := by
  have HT := Lib.hid ht
  have H0 := Lib.hid h0
  have H30 : Hid ((3 : Nat) ≠ 0) := Lib.hid (by decide)
  have H39 : Hid ((3 : Nat) ≠ 9) := Lib.hid (by decide)
  have HN : Hid (∀ (wy : World) (ow : Nat → Nat), RtT wy ow 3 rtNone none 0) := Lib.hid (fun wy ow => ⟨⟨Rd.nil _, Nat.le_refl _, by simp [maxLen]⟩, fun h => absurd rfl h⟩)
  have hl0 : l0.length ≤ maxLen := Nat.le_trans h0.le h0.max
  unfold maxLen at hl0
  clear ht h0
  go_enter Tryd.func6, Tryd.ntmps6
  go_wp2_with fail
  refine (awake8 w HT.out).mono ?_
  rintro e w1 ⟨rfl, hb1⟩
  have S1 := Lib.hid ((TS.begin w).call hb1)
  clear hb1
  go_wp2_with fail
  refine (new8_any 1000 (by decide) (by decide) w1 (fun _ => 9) 3 H30.out (S1.out.tab0 HT.out)).mono ?_
  rintro e w2 ⟨bt, bm, L, A, c, ow, rfl, hL, hag, htab, hb2⟩
  have T2 := Lib.hid htab
  have S2 := Lib.hid ((S1.out.retag hag).call hb2)
  have HL := Lib.hid hL
  clear hL hag htab hb2
  go_wp2_with fail
  go_loopw [5] (fun si wx => ∃ (i : Nat) (ow : Nat → Nat) (L : List RtZ) (A : Option Addr) (c : Nat), i ≤ l0.length ∧ i ≤ 30 ∧ si = .int .i64 i ∧ TS w wx ow ∧ TabT wx ow 3 bt bm 1000 L A c ∧ L.length ≤ i + 1 ∧ (L.map (·.1))[0]? = some rtNone) (fun si _ => 30 - (intOf si).toNat)
  case atStart => exact ⟨0, ow, L, A, c, Nat.zero_le _, by omega, rfl, S2.out, T2.out, by have := congrArg List.length HL.out; simp at this; omega, by rw [HL.out]; rfl⟩
  case round =>
    obtain ⟨i, ow, L, A, c, hi, hi30, rfl, hS, hT, hLi, hL0⟩ := hrel
    have SX := Lib.hid hS
    have TX := Lib.hid hT
    have HL0 := Lib.hid hL0
    have hL31 : L.length ≤ 31 := by omega
    clear hS hT hL0
    by_cases hlt : i < l0.length ∧ (i : Int) < 30
    · obtain ⟨hlt, h30⟩ := hlt
      have RX := Lib.hid (H0.out.call SX.out.base)
      obtain ⟨z, hz⟩ : ∃ z, (l0.zip V0)[i]? = some z := ⟨_, List.getElem?_eq_getElem (by have := RX.out.len; rw [List.length_zip]; omega)⟩
      obtain ⟨b, o, rfl, hb, hc⟩ := RX.out.row.one (i := i) (x := rowV z) (by rw [List.getElem?_map, hz]; rfl)
      have IR := Lib.hid (RX.out.each z (List.mem_of_getElem? hz))
      have hi0 : (0 : Int) ≤ (i : Int) := by omega
      unfold rowV at hc
      clear hz hb
      go_wp2_with fail
      refine (route_any z.1 z.2.1 z.2.2 _ IR.out.rd IR.out.in64 IR.out.len).mono ?_
      rintro e w3 ⟨A3, c3, rfl, ho3, hb3⟩
      have HOK := Lib.hid (routeR_ok z.1)
      generalize routeR z.1 = r at *
      obtain ⟨ow1, ho1, ho2⟩ : ∃ ow1, Agr wr ow ow1 ∧ ∀ k, wr.heap.size ≤ k → ow1 k = 0 := ⟨fun k => if k < wr.heap.size then ow k else 0, fun k hk => if_pos hk, fun k hk => if_neg (by omega)⟩
      have S3 := (SX.out.retag ho1).call hb3
      have T3 := (TX.out.retag ho1).call hb3
      have P3 : PathAt w3 ow1 ((r, (A3, c3)) : RtZ) := PathAt.fresh (w0 := wr) (.inl ho3) ho2
      have hbo : Below w3.heap.size w3 (w3.alloc (.cells #[.int .i64 r.kind, .int .i64 r.cost, .slice A3 r.path.length c3] 25)) := (Below.refl _ _).alloc (Nat.le_refl _) _
      have S4 := Lib.hid (S3.call hbo)
      have T4 := Lib.hid (T3.call hbo)
      have R4 := Lib.hid ((P3.rtT (t := 3) H30.out).call hbo)
      have B4 := Lib.hid (heap_alloc_new w3 (.cells #[.int .i64 r.kind, .int .i64 r.cost, .slice A3 r.path.length c3] 25))
      have HADD := Lib.hid (add_ok (most := 1000) (L := L.map (·.1)) HOK.out (by rw [List.length_map]; omega))
      clear S3 T3 P3 hbo ho1 ho2 ho3 hb3 hc
      unfold rtV
      go_upto_region 7 with fail
      generalize (w3.alloc (.cells #[.int .i64 r.kind, .int .i64 r.cost, .slice A3 r.path.length c3] 25)) = w4 at *
      generalize w3.heap.size = bo at *
      obtain ⟨b0, b1, b2⟩ := results_best B4.out
      go_wp2_with fail
      refine (find8_any r A3 c3 T4.out R4.out.1 (S4.out.tab0 HT.out)).mono ?_
      rintro e w5 ⟨rfl, hb5⟩
      have T5 := Lib.hid (T4.out.call hb5)
      have S5 := Lib.hid (S4.out.call hb5)
      have R5 := Lib.hid (R4.out.call hb5)
      have B5 := Lib.hid ((hb5.block bo (lt_heap B4.out)).trans B4.out)
      clear hb5 b0 b1 b2
      go_wp2_with fail
      refine (size8_any T5.out).mono ?_
      rintro e w6 ⟨rfl, hb6⟩
      have T6 := Lib.hid (T5.out.call hb6)
      have S6 := Lib.hid (S5.out.call hb6)
      have R6 := Lib.hid (R5.out.call hb6)
      have B6 := Lib.hid ((hb6.block bo (lt_heap B5.out)).trans B5.out)
      clear hb6
      obtain ⟨b0, b1, b2⟩ := results_best B6.out
      go_wp2_with fail
      refine (add8_any r A3 c3 T6.out H30.out R6.out (S6.out.tab HT.out H39.out) (by omega)).mono ?_
      rintro e w7 hp
      obtain ⟨L', A', c', ow', rfl, hL', -, htab, -, hs⟩ := hp.ts S6.out H39.out
      have T7 := Lib.hid htab
      have S7 := Lib.hid hs
      have HF' := Lib.hid (show (L'.map (·.1))[0]? = some rtNone from by rw [hL']; exact add_first HL0.out)
      clear hp htab hs b0 b1 b2
      obtain ⟨hE, hcase⟩ := HADD.out
      rw [hE]
      rcases hcase with ⟨-, h1, h2, h3⟩ | ⟨-, h1, h2, h3⟩
      · rw [h1] at hL'
        rw [h2, h3]
        have hlen : L'.length = L.length := by have := congrArg List.length hL'; simpa using this
        generalize (L.map (·.1)).idxOf r = ix at *
        have hq1 : decide ((ix : Int) < -1) = false := decide_eq_false (by omega)
        have hq2 : decide ((ix : Int) < 0) = false := decide_eq_false (by omega)
        have hq3 : decide ((0 : Int) ≤ (ix : Int)) = true := decide_eq_true (by omega)
        have hq4 : ((ix : Int) != (ix : Int)) = false := by simp
        have hq5 : ((L.length : Int) != (L.length : Int)) = false := by simp
        clear h1 h2 h3 hL' hE
        go_wp2_with fail
        refine (size8_any T7.out).mono ?_
        rintro e w8 ⟨rfl, hb8⟩
        rw [hlen]
        have T8 := Lib.hid (T7.out.call hb8)
        have S8 := Lib.hid (S7.out.call hb8)
        clear hb8
        go_wp2
        go_roundw
        case rel => exact ⟨i + 1, ow', L', A', c', by omega, by omega, by go_num, S8.out, T8.out, by omega, HF'.out⟩
        case measure => simp [intOf]; omega
      · rw [h1] at hL'
        rw [h2, h3, List.length_map]
        have hlen : L'.length = L.length + 1 := by have := congrArg List.length hL'; simpa using this
        have hq5 : ((L.length : Int) != (L.length : Int)) = false := by simp
        have hq6 : ((L.length : Int) + 1 != (L.length : Int) + 1) = false := by simp
        clear h1 h2 h3 hL' hE
        go_wp2_with fail
        refine (size8_any T7.out).mono ?_
        rintro e w8 ⟨rfl, hb8⟩
        rw [hlen, show ((L.length + 1 : Nat) : Int) = (L.length : Int) + 1 from by omega]
        have T8 := Lib.hid (T7.out.call hb8)
        have S8 := Lib.hid (S7.out.call hb8)
        clear hb8
        go_wp2
        go_roundw
        case rel => exact ⟨i + 1, ow', L', A', c', by omega, by omega, by go_num, S8.out, T8.out, by omega, HF'.out⟩
        case measure => simp [intOf]; omega
    · have hx : (i < l0.length ∧ ¬ (i : Int) < 30) ∨ ¬ i < l0.length := by
        by_cases h1 : i < l0.length
        · exact .inl ⟨h1, fun h => hlt ⟨h1, h⟩⟩
        · exact .inr h1
      have HFF := Lib.hid (find_first HL0.out)
      have HGO := Lib.hid (get_out (L.map (·.1)))
      clear hlt
      rcases hx with ⟨h1, h2⟩ | h1 <;> (
        go_wp2_with fail
        refine (find8_any rtNone none 0 TX.out (HN.out _ ow).1 (SX.out.tab0 HT.out)).mono ?_
        rintro e w3 ⟨rfl, hb3⟩
        rw [HFF.out]
        have T3 := Lib.hid (TX.out.call hb3)
        have S3 := Lib.hid (SX.out.call hb3)
        clear hb3
        go_wp2_with fail
        refine (get8_any (-1) T3.out).mono ?_
        rintro e w4 ⟨A4, c4, rfl, ho4, hb4⟩
        rw [HGO.out.1] at ho4 ⊢
        have T4 := Lib.hid (T3.out.call hb4)
        have S4 := Lib.hid (S3.out.call hb4)
        have O4 := Lib.hid (ho4.rt rtNone.kind rtNone.cost)
        clear hb4 ho4
        unfold rtV
        go_wp2_with fail
        refine (refSame_any rtNone rtNone A4 none c4 0 _ O4.out (HN.out _ ow).1).mono ?_
        rintro e w5 ⟨rfl, hb5⟩
        rw [show decide (rtNone = rtNone) = true from decide_eq_true rfl]
        have T5 := Lib.hid (T4.out.call hb5)
        have S5 := Lib.hid (S4.out.call hb5)
        clear hb5
        go_wp2_with fail
        refine (size8_any T5.out).mono ?_
        rintro e w6 ⟨rfl, hb6⟩
        have T6 := Lib.hid (T5.out.call hb6)
        have S6 := Lib.hid (S5.out.call hb6)
        clear hb6
        go_wp2_with fail
        refine (get8_any (L.length : Int) T6.out).mono ?_
        rintro e w7 ⟨A7, c7, rfl, ho7, hb7⟩
        have hgo2 := HGO.out.2
        rw [List.length_map] at hgo2
        rw [hgo2] at ho7 ⊢
        have S7 := Lib.hid (S6.out.call hb7)
        have O7 := Lib.hid (ho7.rt rtNone.kind rtNone.cost)
        clear hb7 ho7 hgo2
        unfold rtV
        go_wp2_with fail
        refine (refSame_any rtNone rtNone A7 none c7 0 _ O7.out (HN.out _ ow).1).mono ?_
        rintro e w8 ⟨rfl, hb8⟩
        rw [show decide (rtNone = rtNone) = true from decide_eq_true rfl]
        have S8 := Lib.hid (S7.out.call hb8)
        clear hb8
        go_wp2
        go_ret
        exact ⟨rfl, S8.out.base⟩)
end Go.Proofs.YtjdnkbpclhldfaaDoor

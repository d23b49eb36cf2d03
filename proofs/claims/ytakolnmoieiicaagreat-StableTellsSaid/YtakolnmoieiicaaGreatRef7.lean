/- The document's own answers of layer 7: in; of layer 5: Other. The document's own answers of layer 7: Own. -/
import Derived.Test.YtakolnmoieiicaaGreatRef5
import Derived.Test.YtakolnmoieiicaaGreatRef3r
import Derived.Test.YtakolnmoieiicaaGreatCarryH
namespace Go.Proofs.YtakolnmoieiicaaGreat
set_option linter.unusedSimpArgs false
set_option linter.unusedVariables false
open Go.RowKit

section
set_option maxHeartbeats 1000000 in
theorem rin_any (l : List Int) (n : Int) (A : Option Addr) (c : Nat) (w : World) (h : Rd w w.heap.size 1 A l.length (ints l)) (hl : l.length ≤ 10000) :
    Calls Tryz.prog 78 #[.slice A l.length c, .int .i64 n] w fun e w' => e = .returned (.bool (decide (n ∈ l))) ∧ Below w.heap.size w w' := by
  have H := Lib.hid h
  clear h
  go_enter Tryz.func78, Tryz.ntmps78
  go_wp2_with fail
  go_loopw [5] (fun si wx => ∃ i : Nat, i ≤ l.length ∧ si = .int .i64 i ∧ (∀ y ∈ l.take i, y ≠ n) ∧ Below w.heap.size w wx) (fun si _ => l.length - (intOf si).toNat)
  case atStart => exact ⟨0, Nat.zero_le _, rfl, by simp, Below.refl _ _⟩
  case round =>
    obtain ⟨i, hi, rfl, hne, hB⟩ := hrel
    have HNE := Lib.hid hne
    have BX := Lib.hid hB
    clear hne
    have hi0 : (0 : Int) ≤ (i : Int) := by omega
    by_cases hlt : i < l.length
    · obtain ⟨x, hx⟩ : ∃ x, l[i]? = some x := ⟨_, List.getElem?_eq_getElem hlt⟩
      obtain ⟨b, o, rfl, hb, hc⟩ := H.out.one (i := i) (x := .int .i64 x) (by simp [ints, hx])
      have hc1 : wr.cell? ⟨b, o + i, none⟩ = some (.int .i64 x) := (hB.cell (p := ⟨b, o + i, none⟩) hb).trans hc
      have HT : Hid (l.take (i + 1) = l.take i ++ [x]) := Lib.hid (by rw [List.take_add_one, hx]; rfl)
      have HM := Lib.hid (List.mem_of_getElem? hx)
      clear hx hc hB
      by_cases hxn : x = n
      · have q : (x == n) = true := by simp [hxn]
        have HF := Lib.hid (show true = decide (n ∈ l) from by rw [decide_eq_true (by rw [← hxn]; exact HM.out)])
        clear hxn
        go_wp2
        go_ret
        exact ⟨ret_bool HF.out, BX.out⟩
      · have q : (x == n) = false := by simp [hxn]
        have HN2 := Lib.hid (show ∀ y ∈ l.take (i + 1), y ≠ n from by
          rw [HT.out]; intro y hy
          rcases List.mem_append.1 hy with h1 | h1
          · exact HNE.out y h1
          · simp at h1; rw [h1]; exact hxn)
        clear hxn
        go_wp2
        go_roundw
        case rel => exact ⟨i + 1, by omega, by go_num, HN2.out, BX.out⟩
        case measure => simp [intOf]; omega
    · have HF := Lib.hid (show false = decide (n ∈ l) from by
        have := HNE.out
        rw [List.take_of_length_le (by omega)] at this
        rw [decide_eq_false (fun hm => this n hm rfl)])
      clear hB
      go_wp2
      go_ret
      exact ⟨ret_bool HF.out, BX.out⟩
end

section
def rownG (p : Net) (d n : Int) : Rt := if rightB p = true then ownR p d n else rtNone
theorem rown_good {p : Net} (h : rightB p = true) (d n : Int) : rownG p d n = ownR p d n := by unfold rownG; rw [if_pos h]
theorem right_proto {p : Net} (h : rightB p = true) : p.proto = 1 ∨ p.proto = 2 := by
  simp only [rightB, routingB, withinB, Bool.and_eq_true, Bool.or_eq_true, beq_iff_eq, decide_eq_true_eq] at h
  have := h.1
  omega
set_option maxRecDepth 100000 in
set_option maxHeartbeats 4000000 in
theorem rown_any (p : Net) (h : Hd) (d n : Int) (w : World) (hp : NetR w w.heap.size p h) (hs : Small p) :
    Calls Tryz.prog 50 #[netV p h, .int .i64 d, .int .i64 n] w fun e w' => e = .returned (rtV (rownG p d n) none 0) ∧ Below w.heap.size w w' := by
  have PX : Hid (PR w ((w.alloc (.cells (netCells p h) 30)).alloc (.cells #[.int .i64 0, .int .i64 0, .slice none 0 0] 48)) p h rtNone none 0) := Lib.hid (PR.begin hp rtR_nil)
  have HS := Lib.hid hs
  have hdl := hs.dests
  unfold netV netVal
  clear hp hs
  by_cases hr : rightB p = true
  rotate_left
  · have HN := Lib.hid (show rownG p d n = rtNone from by unfold rownG; rw [if_neg hr])
    have hr : rightB p = false := by simpa using hr
    have HR := Lib.hid hr
    clear hr
    have HF : Hid (∀ w', Below w.heap.size w w' → (Ending.returned (.agg #[.int .i64 0, .int .i64 0, .slice none 0 0]) = Ending.returned (rtV (rownG p d n) none 0) ∧ Below w.heap.size w w')) := Lib.hid (fun w' hb => ⟨by rw [HN.out]; rfl, hb⟩)
    go_enter Tryz.func50, Tryz.ntmps50
    go_wp2_with fail
    refine (rright_any p h _ PX.out.net HS.out).mono ?_
    rintro e w1 ⟨rfl, hb1⟩
    rw [HR.out]
    have P1 := Lib.hid (PX.out.call hb1)
    obtain ⟨hfin, ⟨r0, r1, r2⟩, ⟨f0, f1, f2⟩⟩ := rt_put P1.out.below (Nat.le_succ _) P1.out.box (.int .i64 0) (.int .i64 0) (.slice none 0 0)
    have HB := Lib.hid hfin
    clear hb1 hfin
    go_wp2
    exact bodyPost_ret (v := .agg #[.int .i64 0, .int .i64 0, .slice none 0 0]) (by simp [results, Tryz.results50, go_sem, r0, r1, r2]) rfl (HF.out _ HB.out)
  have HRT := Lib.hid hr
  have HPR := Lib.hid (right_proto hr)
  clear hr
  by_cases hin : placeB d p.dests.length = true ∧ n ∈ orgOf p d
  · obtain ⟨hd, hn⟩ := hin
    have hd' : 0 ≤ d ∧ d < p.dests.length := by unfold placeB at hd; simpa using hd
    obtain ⟨d, rfl⟩ : ∃ k : Nat, d = k := ⟨d.toNat, by omega⟩
    have HN := Lib.hid (show rownG p d n = rtOwn p from by unfold rownG; rw [if_pos HRT.out]; unfold ownR; rw [if_pos ⟨hd, hn⟩])
    have HI := Lib.hid hn
    have hd0 : (0 : Int) ≤ (d : Int) := by omega
    have hd1 : (d : Int) < (p.dests.length : Int) := by omega
    have hd0' : decide ((d : Int) < 0) = false := decide_eq_false (by omega)
    have hd1' : decide ((p.dests.length : Int) ≤ (d : Int)) = false := decide_eq_false (by omega)
    have hd1'' : decide (p.dests.length ≤ d) = false := decide_eq_false (by omega)
    clear hd hn hd'
    go_enter Tryz.func50, Tryz.ntmps50
    go_wp2_with fail
    refine (rright_any p h _ PX.out.net HS.out).mono ?_
    rintro e w1 ⟨rfl, hb1⟩
    rw [HRT.out]
    have P1 := Lib.hid (PX.out.call hb1)
    obtain ⟨c0, c1, c2, c3, c4, c5, c6⟩ := P1.out.all
    obtain ⟨z, b, o, hz, he, hb, hc, hrd⟩ := P1.out.net.dest1 (d := d) (by omega)
    rw [he] at c5
    have hl := HS.out.origins _ (List.mem_of_getElem? hz)
    have HR := Lib.hid hrd
    have HM := Lib.hid (show decide (n ∈ z.1.origins) = true from by
      have := HI.out
      unfold orgOf at this
      simp only [Int.toNat_natCast, hz] at this
      simpa using this)
    clear hb1 he hz hrd
    go_wp2_with fail
    refine (rin_any z.1.origins n _ _ _ HR.out (by omega)).mono ?_
    rintro e w2 ⟨rfl, hb2⟩
    rw [HM.out]
    have P2 := Lib.hid (P1.out.call hb2)
    clear hb2 c0 c1 c2 c3 c4 c5 c6 hc
    obtain ⟨c0, -⟩ := P2.out.all
    rcases HPR.out with h2 | h2
    · have HO := Lib.hid (show rtOwn p = ⟨1, 0, []⟩ from by unfold rtOwn; rw [if_neg (by omega)])
      have hq : (p.proto == 1) = true := by simp [h2]
      obtain ⟨hfin, ⟨r0, r1, r2⟩, ⟨f0, f1, f2⟩⟩ := rt_put P2.out.below (Nat.le_succ _) P2.out.box (.int .i64 1) (.int .i64 0) (.slice none 0 0)
      clear h2
      go_wp2
      exact bodyPost_ret (v := .agg #[.int .i64 1, .int .i64 0, .slice none 0 0]) (by simp [results, Tryz.results50, go_sem, r0, r1, r2]) rfl ⟨by rw [HN.out, HO.out]; rfl, hfin⟩
    · have HO := Lib.hid (show rtOwn p = ⟨2, 0, []⟩ from by unfold rtOwn; rw [if_pos h2])
      have hq : (p.proto == 1) = false := by simp [h2]
      obtain ⟨hfin, ⟨r0, r1, r2⟩, ⟨f0, f1, f2⟩⟩ := rt_put P2.out.below (Nat.le_succ _) P2.out.box (.int .i64 2) (.int .i64 0) (.slice none 0 0)
      clear h2
      go_wp2
      exact bodyPost_ret (v := .agg #[.int .i64 2, .int .i64 0, .slice none 0 0]) (by simp [results, Tryz.results50, go_sem, r0, r1, r2]) rfl ⟨by rw [HN.out, HO.out]; rfl, hfin⟩
  · have HN := Lib.hid (show rownG p d n = rtNone from by unfold rownG; rw [if_pos HRT.out]; unfold ownR; rw [if_neg hin])
    have HF : Hid (∀ w', Below w.heap.size w w' → (Ending.returned (.agg #[.int .i64 0, .int .i64 0, .slice none 0 0]) = Ending.returned (rtV (rownG p d n) none 0) ∧ Below w.heap.size w w')) := Lib.hid (fun w' hb => ⟨by rw [HN.out]; rfl, hb⟩)
    by_cases h0 : d < 0
    · have h0' : decide (d < 0) = true := decide_eq_true h0
      clear hin h0
      go_enter Tryz.func50, Tryz.ntmps50
      go_wp2_with fail
      refine (rright_any p h _ PX.out.net HS.out).mono ?_
      rintro e w1 ⟨rfl, hb1⟩
      rw [HRT.out]
      have P1 := Lib.hid (PX.out.call hb1)
      obtain ⟨hfin, ⟨r0, r1, r2⟩, ⟨f0, f1, f2⟩⟩ := rt_put P1.out.below (Nat.le_succ _) P1.out.box (.int .i64 0) (.int .i64 0) (.slice none 0 0)
      have HB := Lib.hid hfin
      clear hb1 hfin
      go_wp2
      exact bodyPost_ret (v := .agg #[.int .i64 0, .int .i64 0, .slice none 0 0]) (by simp [results, Tryz.results50, go_sem, r0, r1, r2]) rfl (HF.out _ HB.out)
    · obtain ⟨d, rfl⟩ : ∃ k : Nat, d = k := ⟨d.toNat, by omega⟩
      have hd0' : decide ((d : Int) < 0) = false := decide_eq_false (by omega)
      by_cases h1 : p.dests.length ≤ d
      · have hd1' : decide ((p.dests.length : Int) ≤ (d : Int)) = true := decide_eq_true (by omega)
        have hd1'' : decide (p.dests.length ≤ d) = true := decide_eq_true (by omega)
        clear hin h0 h1
        go_enter Tryz.func50, Tryz.ntmps50
        go_wp2_with fail
        refine (rright_any p h _ PX.out.net HS.out).mono ?_
        rintro e w1 ⟨rfl, hb1⟩
        rw [HRT.out]
        have P1 := Lib.hid (PX.out.call hb1)
        obtain ⟨c0, c1, c2, c3, c4, c5, c6⟩ := P1.out.all
        obtain ⟨hfin, ⟨r0, r1, r2⟩, ⟨f0, f1, f2⟩⟩ := rt_put P1.out.below (Nat.le_succ _) P1.out.box (.int .i64 0) (.int .i64 0) (.slice none 0 0)
        have HB := Lib.hid hfin
        clear hb1 hfin
        go_wp2
        exact bodyPost_ret (v := .agg #[.int .i64 0, .int .i64 0, .slice none 0 0]) (by simp [results, Tryz.results50, go_sem, r0, r1, r2]) rfl (HF.out _ HB.out)
      · have hd1' : decide ((p.dests.length : Int) ≤ (d : Int)) = false := decide_eq_false (by omega)
        have hd1'' : decide (p.dests.length ≤ d) = false := decide_eq_false (by omega)
        have hd0 : (0 : Int) ≤ (d : Int) := by omega
        have hd1 : (d : Int) < (p.dests.length : Int) := by omega
        have HI := Lib.hid (show n ∉ orgOf p d from fun e => hin ⟨by unfold placeB; simpa using hd1, e⟩)
        clear hin h0 h1
        go_enter Tryz.func50, Tryz.ntmps50
        go_wp2_with fail
        refine (rright_any p h _ PX.out.net HS.out).mono ?_
        rintro e w1 ⟨rfl, hb1⟩
        rw [HRT.out]
        have P1 := Lib.hid (PX.out.call hb1)
        obtain ⟨c0, c1, c2, c3, c4, c5, c6⟩ := P1.out.all
        obtain ⟨z, b, o, hz, he, hb, hc, hrd⟩ := P1.out.net.dest1 (d := d) (by omega)
        rw [he] at c5
        have hl := HS.out.origins _ (List.mem_of_getElem? hz)
        have HR := Lib.hid hrd
        have HM := Lib.hid (show decide (n ∈ z.1.origins) = false from by
          have := HI.out
          unfold orgOf at this
          simp only [Int.toNat_natCast, hz] at this
          simpa using this)
        clear hb1 he hz hrd
        go_wp2_with fail
        refine (rin_any z.1.origins n _ _ _ HR.out (by omega)).mono ?_
        rintro e w2 ⟨rfl, hb2⟩
        rw [HM.out]
        have P2 := Lib.hid (P1.out.call hb2)
        clear hb2 c0 c1 c2 c3 c4 c5 c6 hc
        obtain ⟨hfin, ⟨r0, r1, r2⟩, ⟨f0, f1, f2⟩⟩ := rt_put P2.out.below (Nat.le_succ _) P2.out.box (.int .i64 0) (.int .i64 0) (.slice none 0 0)
        have HB := Lib.hid hfin
        clear hfin
        go_wp2
        exact bodyPost_ret (v := .agg #[.int .i64 0, .int .i64 0, .slice none 0 0]) (by simp [results, Tryz.results50, go_sem, r0, r1, r2]) rfl (HF.out _ HB.out)
end
end Go.Proofs.YtakolnmoieiicaaGreat

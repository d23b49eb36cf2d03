/- What the walks of layer 8's statements share; the example of backstaylaw08.awake, walked. -/
import Derived.Test.YtjdnkbpclhldfaaDoorTableO
namespace Go.Proofs.YtjdnkbpclhldfaaDoor
set_option linter.unusedSimpArgs false
set_option linter.unusedVariables false
open Go.RowKit

theorem rt_beq03 : ((⟨0, 0, []⟩ : Rt) == ⟨1, 3, []⟩) = false := by rw [beq_eq_false_iff_ne]; simp
/-- What was there at first is as it was, and of the tag 9. -/
structure TS (w0 wr : World) (ow : Nat → Nat) : Prop where
  base : Below w0.heap.size w0 wr
  old : ∀ k, k < w0.heap.size → ow k = 9
section
variable {w0 wr w' : World} {ow ow' : Nat → Nat} {t : Nat}
theorem TS.begin (w : World) : TS w w (fun _ => 9) := ⟨Below.refl _ _, fun _ _ => rfl⟩
theorem TS.chg (a : TS w0 wr ow) (hc : Chg ow t wr w') (ht : t ≠ 9) : TS w0 w' ow := ⟨a.base.trans (hc.below (fun k hk => by rw [a.old k hk]; exact Ne.symm ht) a.base.size), a.old⟩
theorem TS.call (a : TS w0 wr ow) (hb : Below wr.heap.size wr w') : TS w0 w' ow := ⟨since_trans a.base hb, a.old⟩
theorem TS.retag (a : TS w0 wr ow) (ha : Agr wr ow ow') : TS w0 wr ow' := ⟨a.base, fun k hk => by rw [ha k (Nat.lt_of_lt_of_le hk a.base.size)]; exact a.old k hk⟩
theorem TS.tab (a : TS w0 wr ow) (h : Tab w0) (ht : t ≠ 9) : ∀ w', Chg ow t wr w' → Tab w' := fun w' hc => h.call (a.chg hc ht).base
theorem TS.tab0 (a : TS w0 wr ow) (h : Tab w0) : Tab wr := h.call a.base
end
/-- Behind Add: the table and what was there at first. -/
theorem AddPost.ts {w0 wr w' : World} {ow : Nat → Nat} {t bt bm : Nat} {most : Int} {L : List RtZ} {r : Rt} {e : Ending} (h : AddPost wr ow t bt bm most L r e w') (a : TS w0 wr ow) (ht : t ≠ 9) :
    ∃ (L' : List RtZ) (A' : Option Addr) (c' : Nat) (ow' : Nat → Nat), e = .returned (.tuple #[.int .i64 (addGN most (L.map (·.1)) r), .int .i64 (addGE most (L.map (·.1)) r)]) ∧ L'.map (·.1) = addGL most (L.map (·.1)) r ∧ Agr wr ow ow' ∧ TabT w' ow' t bt bm most L' A' c' ∧ Chg ow t wr w' ∧ TS w0 w' ow' := by
  obtain ⟨L', A', c', ow', h1, h2, h3, h4, h5⟩ := h
  refine ⟨L', A', c', ow', h1, h2, h3, h4, h5, ⟨(a.chg h5 ht).base, fun k hk => ?_⟩⟩
  rw [h3 k (Nat.lt_of_lt_of_le hk a.base.size)]; exact a.old k hk
theorem new8_no (most : Int) (h : most < 1 ∨ 1073741824 < most) (w : World) : Calls Tryd.prog 10 #[.int .i64 most] w fun e w' => e = .returned (.pointer none) ∧ Below w.heap.size w w' := by
  by_cases h1 : most < 1
  · have hd1 : decide (most < 1) = true := decide_eq_true h1
    clear h
    go_enter Tryd.func10, Tryd.ntmps10
    go_wp2
    go_ret
    exact ⟨rfl, Below.refl _ _⟩
  · have hd1 : decide (most < 1) = false := decide_eq_false h1
    have hd2 : decide (1073741824 < most) = true := decide_eq_true (by omega)
    clear h
    go_enter Tryd.func10, Tryd.ntmps10
    go_wp2
    go_ret
    exact ⟨rfl, Below.refl _ _⟩
set_option maxRecDepth 100000 in
set_option maxHeartbeats 4000000 in
theorem awake8 (w : World) (ht : Tab w) : Calls Tryd.prog 8 #[] w fun e w' => e = .returned (.bool true) ∧ Below w.heap.size w w' := by
  have HT := Lib.hid ht
  have h30 : (3 : Nat) ≠ 0 := by decide
  have h39 : (3 : Nat) ≠ 9 := by decide
  have H30 := Lib.hid h30
  have H39 := Lib.hid h39
  have HN : Hid (∀ (k c : Int) (wy : World) (ow : Nat → Nat), RtT wy ow 3 ⟨k, c, []⟩ none 0) := Lib.hid (fun k c wy ow => ⟨⟨Rd.nil _, Nat.le_refl _, by simp [maxLen]⟩, fun h => absurd rfl h⟩)
  clear ht h30 h39
  go_enter Tryd.func8, Tryd.ntmps8
  go_wp2_with fail
  refine (new8_any 2 (by decide) (by decide) w (fun _ => 9) 3 H30.out HT.out).mono ?_
  rintro e w1 ⟨bt, bm, L1, A1, c1, ow1, rfl, hL1, hag1, htab1, hb1⟩
  have T1 := Lib.hid htab1
  have S1 : Hid (TS w w1 ow1) := Lib.hid ⟨hb1, fun k hk => hag1 k hk⟩
  have HL1 := Lib.hid hL1
  have hl1 : L1.length ≤ 1000 := by have := congrArg List.length hL1; simp at this; omega
  clear hL1 hag1 htab1 hb1
  go_wp2_with fail
  refine (add8_any ⟨1, 3, []⟩ none 0 T1.out H30.out (HN.out _ _ _ _) (S1.out.tab HT.out H39.out) hl1).mono ?_
  rintro e w2 hp
  obtain ⟨L2, A2, c2, ow2, rfl, hL2, hag2, htab2, -, hs2⟩ := hp.ts S1.out H39.out
  rw [HL1.out] at hL2 ⊢
  rw [show addGN 2 [rtNone] ⟨1, 3, []⟩ = 1 from by simp [addGN, addN, addGE, addE, addGL, addL, findG, findT, rtRightB, rtNone, List.idxOf_cons, rt_beq03], show addGE 2 [rtNone] ⟨1, 3, []⟩ = 0 from by simp [addGN, addN, addGE, addE, addGL, addL, findG, findT, rtRightB, rtNone, List.idxOf_cons, rt_beq03]]
  have HL2 : Hid (L2.map (·.1) = [rtNone, ⟨1, 3, []⟩]) := Lib.hid (hL2.trans (by simp [addGN, addN, addGE, addE, addGL, addL, findG, findT, rtRightB, rtNone, List.idxOf_cons, rt_beq03]))
  have T2 := Lib.hid htab2
  have S2 := Lib.hid hs2
  have hl2 : L2.length ≤ 1000 := by have := congrArg List.length HL2.out; simp at this; omega
  clear hp hL2 hag2 htab2 hs2
  go_wp2_with fail
  refine (add8_any ⟨1, 3, []⟩ none 0 T2.out H30.out (HN.out _ _ _ _) (S2.out.tab HT.out H39.out) hl2).mono ?_
  rintro e w3 hp
  obtain ⟨L3, A3, c3, ow3, rfl, hL3, hag3, htab3, -, hs3⟩ := hp.ts S2.out H39.out
  rw [HL2.out] at hL3 ⊢
  rw [show addGN 2 [rtNone, ⟨1, 3, []⟩] ⟨1, 3, []⟩ = 1 from by simp [addGN, addN, addGE, addE, addGL, addL, findG, findT, rtRightB, rtNone, List.idxOf_cons, rt_beq03], show addGE 2 [rtNone, ⟨1, 3, []⟩] ⟨1, 3, []⟩ = 0 from by simp [addGN, addN, addGE, addE, addGL, addL, findG, findT, rtRightB, rtNone, List.idxOf_cons, rt_beq03]]
  have HL3 : Hid (L3.map (·.1) = [rtNone, ⟨1, 3, []⟩]) := Lib.hid (hL3.trans (by simp [addGN, addN, addGE, addE, addGL, addL, findG, findT, rtRightB, rtNone, List.idxOf_cons, rt_beq03]))
  have T3 := Lib.hid htab3
  have S3 := Lib.hid hs3
  have hl3 : L3.length ≤ 1000 := by have := congrArg List.length HL3.out; simp at this; omega
  clear hp hL3 hag3 htab3 hs3
  go_wp2_with fail
  refine (add8_any ⟨1, 4, []⟩ none 0 T3.out H30.out (HN.out _ _ _ _) (S3.out.tab HT.out H39.out) hl3).mono ?_
  rintro e w4 hp
  obtain ⟨L4, A4, c4, ow4, rfl, hL4, hag4, htab4, -, hs4⟩ := hp.ts S3.out H39.out
  rw [HL3.out] at hL4 ⊢
  rw [show addGN 2 [rtNone, ⟨1, 3, []⟩] ⟨1, 4, []⟩ = 0 from by simp [addGN, addN, addGE, addE, addGL, addL, findG, findT, rtRightB, rtNone, List.idxOf_cons, rt_beq03], show addGE 2 [rtNone, ⟨1, 3, []⟩] ⟨1, 4, []⟩ = 60 from by simp [addGN, addN, addGE, addE, addGL, addL, findG, findT, rtRightB, rtNone, List.idxOf_cons, rt_beq03]]
  have HL4 : Hid (L4.map (·.1) = [rtNone, ⟨1, 3, []⟩]) := Lib.hid (hL4.trans (by simp [addGN, addN, addGE, addE, addGL, addL, findG, findT, rtRightB, rtNone, List.idxOf_cons, rt_beq03]))
  have T4 := Lib.hid htab4
  have S4 := Lib.hid hs4
  have hl4 : L4.length ≤ 1000 := by have := congrArg List.length HL4.out; simp at this; omega
  clear hp hL4 hag4 htab4 hs4
  go_wp2_with fail
  refine (add8_any ⟨9, 0, []⟩ none 0 T4.out H30.out (HN.out _ _ _ _) (S4.out.tab HT.out H39.out) hl4).mono ?_
  rintro e w5 hp
  obtain ⟨L5, A5, c5, ow5, rfl, hL5, hag5, htab5, -, hs5⟩ := hp.ts S4.out H39.out
  rw [HL4.out] at hL5 ⊢
  rw [show addGN 2 [rtNone, ⟨1, 3, []⟩] ⟨9, 0, []⟩ = 0 from by simp [addGN, addN, addGE, addE, addGL, addL, findG, findT, rtRightB, rtNone, List.idxOf_cons, rt_beq03], show addGE 2 [rtNone, ⟨1, 3, []⟩] ⟨9, 0, []⟩ = 1 from by simp [addGN, addN, addGE, addE, addGL, addL, findG, findT, rtRightB, rtNone, List.idxOf_cons, rt_beq03]]
  have HL5 : Hid (L5.map (·.1) = [rtNone, ⟨1, 3, []⟩]) := Lib.hid (hL5.trans (by simp [addGN, addN, addGE, addE, addGL, addL, findG, findT, rtRightB, rtNone, List.idxOf_cons, rt_beq03]))
  have T5 := Lib.hid htab5
  have S5 := Lib.hid hs5
  have hl5 : L5.length = 2 := by have := congrArg List.length HL5.out; simpa using this
  have HLN := Lib.hid hl5
  clear hp hL5 hag5 htab5 hs5 hl5
  go_wp2_with fail
  refine (size8_any T5.out).mono ?_
  rintro e w6 ⟨rfl, hb6⟩
  rw [HLN.out]
  have T6 := Lib.hid (T5.out.call hb6)
  have S6 := Lib.hid (S5.out.call hb6)
  clear hb6
  go_wp2_with fail
  refine (get8_any 1 T6.out).mono ?_
  rintro e w7 ⟨A7, c7, rfl, -, hb7⟩
  rw [HL5.out, show getT [rtNone, ⟨1, 3, []⟩] 1 = ⟨1, 3, []⟩ from rfl]
  have T7 := Lib.hid (T6.out.call hb7)
  have S7 := Lib.hid (S6.out.call hb7)
  clear hb7
  unfold rtV
  have hfd : ∀ wy : World, (Instr.field 25 (.agg #[.int .i64 1, .int .i64 3, .slice A7 0 c7]) 1).run Tryd.prog wy = .ok (.int .i64 3) wy := fun wy => by kernel_rfl
  go_wp2_with fail
  refine (find8_any rtNone none 0 T7.out (HN.out _ _ _ ow5).1 (S7.out.tab0 HT.out)).mono ?_
  rintro e w8 ⟨rfl, hb8⟩
  rw [HL5.out, show findG [rtNone, ⟨1, 3, []⟩] rtNone = 0 from by simp [addGN, addN, addGE, addE, addGL, addL, findG, findT, rtRightB, rtNone, List.idxOf_cons, rt_beq03]]
  have S8 := Lib.hid (S7.out.call hb8)
  clear hb8 hfd
  go_wp2_with fail
  refine (new8_no 0 (.inl (by decide)) _).mono ?_
  rintro e w9 ⟨rfl, hb9⟩
  have S9 := Lib.hid (S8.out.call hb9)
  clear hb9
  go_wp2
  go_ret
  exact ⟨rfl, S9.out.base⟩
theorem pick8_any (c n : Int) (w : World) (hc : In64 c) (hn : 0 < n) (hn2 : n < 10000000000) : Calls Tryd.prog 9 #[.int .i64 c, .int .i64 n] w fun e w' => e = .returned (.int .i64 (pickV c n)) ∧ w = w' := by
  obtain ⟨h1, h2⟩ := hc
  have hn0 : n ≠ 0 := by omega
  by_cases h : c < 0
  · have HN := Lib.hid (show pickV c n = Int.tmod (-(c + 1)) n from by unfold pickV; rw [if_pos h, Int.tmod_eq_emod_of_nonneg (by omega)])
    go_enter Tryd.func9, Tryd.ntmps9
    go_wp2
    go_ret
    exact ⟨ret_int (by rw [HN.out, Int.neg_tmod]), rfl⟩
  · have HN := Lib.hid (show pickV c n = c % n from by unfold pickV; rw [if_neg h])
    go_enter Tryd.func9, Tryd.ntmps9
    go_wp2
    go_ret
    exact ⟨ret_int (by rw [HN.out]), rfl⟩
/-- A route in a box of the tag 0. -/
structure RB (w : World) (ow : Nat → Nat) (bo : Nat) (r : Rt) (A : Option Addr) (c : Nat) : Prop where
  box : w.heap[bo]? = some (.cells #[.int .i64 r.kind, .int .i64 r.cost, .slice A r.path.length c] 25 (0, 0))
  tag : ow bo = 0
  path : PathAt w ow ((r, (A, c)) : RtZ)
section
variable {w w' : World} {ow ow' : Nat → Nat} {t u bo bt bm : Nat} {r : Rt} {A : Option Addr} {c : Nat} {most : Int} {L : List RtZ}
theorem RB.call (a : RB w ow bo r A c) (hb : Below w.heap.size w w') : RB w' ow bo r A c := ⟨(hb.block bo (lt_heap a.box)).trans a.box, a.tag, a.path.call hb⟩
theorem RB.chg (a : RB w ow bo r A c) (hc : Chg ow t w w') (h0 : t ≠ 0) : RB w' ow bo r A c := ⟨(hc.block bo (lt_heap a.box) (by rw [a.tag]; exact Ne.symm h0)).trans a.box, a.tag, a.path.chg hc h0⟩
theorem RB.retag (a : RB w ow bo r A c) (ha : Agr w ow ow') : RB w ow' bo r A c := ⟨a.box, by rw [ha bo (lt_heap a.box)]; exact a.tag, a.path.retag ha⟩
theorem RB.step (a : RB w ow bo r A c) (ha : Agr w ow ow') (hc : Chg ow t w w') (h0 : t ≠ 0) : RB w' ow' bo r A c := (a.retag ha).chg (hc.agr ha) h0
theorem RB.at_ (a : RB w ow bo r A c) : w.cell? ⟨bo, 0, none⟩ = some (.int .i64 r.kind) ∧ w.cell? ⟨bo, 1, none⟩ = some (.int .i64 r.cost) ∧ w.cell? ⟨bo, 2, none⟩ = some (.slice A r.path.length c) := results_best a.box
theorem RB.rtT (a : RB w ow bo r A c) (ht : t ≠ 0) : RtT w ow t r A c := a.path.rtT ht
theorem TabT.step (a : TabT w ow t bt bm most L A c) (ha : Agr w ow ow') (hc : Chg ow u w w') (h1 : u ≠ t) (h0 : u ≠ 0) : TabT w' ow' t bt bm most L A c := (a.retag ha).chg (hc.agr ha) h1 h0
/-- A route that has just been made, laid into a box. -/
theorem RB.new {w0 : World} (ha : ∀ k, w0.heap.size ≤ k → ow k = 0) (hs : w0.heap.size ≤ w.heap.size) (ho : OwnOr w w0.heap.size A c r.path) : RB (w.alloc (.cells #[.int .i64 r.kind, .int .i64 r.cost, .slice A r.path.length c] 25)) ow w.heap.size r A c :=
  ⟨heap_alloc_new _ _, ha _ hs, (PathAt.fresh (w0 := w0) (z := ((r, (A, c)) : RtZ)) ho ha).call ((Below.refl _ _).alloc (Nat.le_refl _) _)⟩
end
/-- Tags for what is new. -/
theorem tag_new (w : World) (ow : Nat → Nat) (t : Nat) : ∃ ow', Agr w ow ow' ∧ ∀ k, w.heap.size ≤ k → ow' k = t :=
  ⟨fun k => if k < w.heap.size then ow k else t, fun k hk => if_pos hk, fun k hk => if_neg (by omega)⟩
end Go.Proofs.YtjdnkbpclhldfaaDoor

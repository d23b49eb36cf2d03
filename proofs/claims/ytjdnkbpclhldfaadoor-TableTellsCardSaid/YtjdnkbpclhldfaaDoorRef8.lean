/- The table that is nil; the walks of backstayref08. -/
import Derived.Test.YtjdnkbpclhldfaaDoorLaw8
import Derived.Test.YtjdnkbpclhldfaaDoorRef6
namespace Go.Proofs.YtjdnkbpclhldfaaDoor
set_option linter.unusedSimpArgs false
set_option linter.unusedVariables false
open Go.RowKit

theorem size8_nil (w : World) : Calls Tryd.prog 15 #[.pointer none] w fun e w' => e = .returned (.int .i64 0) ∧ Below w.heap.size w w' := by
  go_enter Tryd.func15, Tryd.ntmps15
  go_wp2
  go_ret
  exact ⟨rfl, Below.refl _ _⟩
theorem find8_nil (r : Rt) (Ar : Option Addr) (cr : Nat) (w : World) : Calls Tryd.prog 16 #[.pointer none, rtV r Ar cr] w fun e w' => e = .returned (.int .i64 (-1)) ∧ Below w.heap.size w w' := by
  have B0 := Lib.hid ((Below.refl w.heap.size w).alloc (Nat.le_refl _) (.cells #[.int .i64 r.kind, .int .i64 r.cost, .slice Ar r.path.length cr] 25))
  unfold rtV
  go_enter Tryd.func16, Tryd.ntmps16
  go_wp2
  go_ret
  exact ⟨rfl, B0.out⟩
set_option maxRecDepth 100000 in
set_option maxHeartbeats 4000000 in
theorem get8_nil (i : Int) (w : World) : Calls Tryd.prog 19 #[.pointer none, .int .i64 i] w (OrPost rtNone w) := by
  have O0 := Lib.hid (OutW.begin w)
  go_enter Tryd.func19, Tryd.ntmps19
  go_upto_region 1 with fail
  generalize (w.alloc (.cells #[.int .i64 0, .int .i64 0, .slice none 0 0] 25)) = w1 at *
  obtain ⟨r0, r1, r2⟩ := results_best O0.out.out
  have f0 := O0.out.free 0
  have f1 := O0.out.free 1
  have f2 := O0.out.free 2
  have HF : Hid (OrPost rtNone w (.returned (.agg #[.int .i64 0, .int .i64 0, .slice none 0 0])) (((w1.setCell ⟨w.heap.size, 0, none⟩ (.int .i64 0)).setCell ⟨w.heap.size, 1, none⟩ (.int .i64 0)).setCell ⟨w.heap.size, 2, none⟩ (.slice none 0 0))) := Lib.hid ⟨none, 0, rfl, .inr ⟨rfl, Nat.zero_le _⟩, (O0.out.set rtNone none 0).below⟩
  go_wp2
  exact bodyPost_ret (v := .agg #[.int .i64 0, .int .i64 0, .slice none 0 0]) (by simp [results, Tryd.results19, go_sem, rtNone, r0, r1, r2]) rfl HF.out
set_option maxRecDepth 100000 in
set_option maxHeartbeats 4000000 in
theorem add8_nil (r : Rt) (Ar : Option Addr) (cr : Nat) (w : World) (hr : RtR w w.heap.size r Ar cr) : Calls Tryd.prog 13 #[.pointer none, rtV r Ar cr] w fun e w' => e = .returned (.tuple #[.int .i64 (addGN 0 [] r), .int .i64 (addGE 0 [] r)]) ∧ Below w.heap.size w w' := by
  have B0 := Lib.hid ((Below.refl w.heap.size w).alloc (Nat.le_refl _) (.cells #[.int .i64 r.kind, .int .i64 r.cost, .slice Ar r.path.length cr] 25))
  have BX := Lib.hid (Box.new hr)
  clear hr
  unfold rtV
  go_enter Tryd.func13, Tryd.ntmps13
  go_upto_region 1 with fail
  generalize (w.alloc (.cells #[.int .i64 r.kind, .int .i64 r.cost, .slice Ar r.path.length cr] 25)) = w1 at *
  obtain ⟨b0, b1, b2⟩ := BX.out.at_
  go_wp2_with fail
  refine (right_rt r Ar cr _ BX.out.rt).mono ?_
  rintro e w2 ⟨rfl, hb2⟩
  have X2 := Lib.hid (BX.out.call hb2)
  have B2 := Lib.hid (since_trans B0.out hb2)
  clear hb2 b0 b1 b2
  cases hrr : rtRightB r with
  | false =>
    have HF : Hid (addGN 0 [] r = 0 ∧ addGE 0 [] r = 1) := Lib.hid ⟨by unfold addGN; rw [hrr]; rfl, by unfold addGE; rw [hrr]; rfl⟩
    clear hrr
    go_wp2
    exact bodyPost_ret (v := .tuple #[.int .i64 0, .int .i64 1]) (by simp [results, Tryd.results13, go_sem]) rfl ⟨by rw [HF.out.1, HF.out.2], B2.out⟩
  | true =>
    have HF : Hid (addGN 0 [] r = 0 ∧ addGE 0 [] r = 60) := Lib.hid ⟨by unfold addGN addN; rw [hrr]; simp, by unfold addGE addE; rw [hrr]; simp⟩
    clear hrr
    obtain ⟨b0, b1, b2⟩ := X2.out.at_
    go_wp2_with fail
    refine (find8_nil r Ar cr _).mono ?_
    rintro e w3 ⟨rfl, hb3⟩
    have B3 := Lib.hid (since_trans B2.out hb3)
    clear hb3 b0 b1 b2
    go_upto_region 6 with fail
    have B3d := Lib.hid (since_trans B3.out (below_drew (Below.refl w3.heap.size w3)))
    refine wp_region_held_drew (S := (fun _ => True)) (by kernel_rfl) (trivial) (fun hHeld0 => ?_)
    refine take_list (i := 0) (v := ?_) rfl (by kernel_rfl) (by kernel_rfl) (by kernel_rfl) (fun _ _ _ h => h) (Or.inl ⟨by rfl, ?_⟩) (by assumption) ?_
    rotate_left
    · (intro w hSw; (try dsimp only at hSw); go_simp; try (with_reducible rfl))
    try simp only [Act.put, List.setIfInBounds_toArray, List.set_cons_zero, List.set_cons_succ]
    refine take_list (i := 1) (v := ?_) rfl (by kernel_rfl) (by kernel_rfl) (by kernel_rfl) (fun _ _ _ h => h) (Or.inl ⟨by rfl, ?_⟩) (by assumption) ?_
    rotate_left
    · (intro w hSw; (try dsimp only at hSw); go_simp; try (with_reducible rfl))
    try simp only [Act.put, List.setIfInBounds_toArray, List.set_cons_zero, List.set_cons_succ]
    refine take_list (i := 2) (v := ?_) rfl (by kernel_rfl) (by kernel_rfl) (by kernel_rfl) (fun _ _ _ h => h) (Or.inl ⟨by rfl, ?_⟩) (by assumption) ?_
    rotate_left
    · (intro w hSw; (try dsimp only at hSw); go_simp; try (with_reducible rfl))
    try simp only [Act.put, List.setIfInBounds_toArray, List.set_cons_zero, List.set_cons_succ]
    refine take_list (i := 3) (v := undef) rfl (by kernel_rfl) (by kernel_rfl) (by kernel_rfl) (fun _ _ _ h => h) (Or.inr ⟨by rfl, rfl⟩) (by assumption) ?_
    try simp only [Act.put, List.setIfInBounds_toArray, List.set_cons_zero, List.set_cons_succ]
    refine take_list (i := 4) (v := undef) rfl (by kernel_rfl) (by kernel_rfl) (by kernel_rfl) (fun _ _ _ h => h) (Or.inr ⟨by rfl, rfl⟩) (by assumption) ?_
    try simp only [Act.put, List.setIfInBounds_toArray, List.set_cons_zero, List.set_cons_succ]
    refine take_list (i := 5) (v := undef) rfl (by kernel_rfl) (by kernel_rfl) (by kernel_rfl) (fun _ _ _ h => h) (Or.inr ⟨by rfl, rfl⟩) (by assumption) ?_
    try simp only [Act.put, List.setIfInBounds_toArray, List.set_cons_zero, List.set_cons_succ]
    refine take_list (i := 6) (v := undef) rfl (by kernel_rfl) (by kernel_rfl) (by kernel_rfl) (fun _ _ _ h => h) (Or.inr ⟨by rfl, rfl⟩) (by assumption) ?_
    try simp only [Act.put, List.setIfInBounds_toArray, List.set_cons_zero, List.set_cons_succ]
    refine take_list (i := 7) (v := undef) rfl (by kernel_rfl) (by kernel_rfl) (by kernel_rfl) (fun _ _ _ h => h) (Or.inr ⟨by rfl, rfl⟩) (by assumption) ?_
    try simp only [Act.put, List.setIfInBounds_toArray, List.set_cons_zero, List.set_cons_succ]
    refine take_list (i := 8) (v := undef) rfl (by kernel_rfl) (by kernel_rfl) (by kernel_rfl) (fun _ _ _ h => h) (Or.inr ⟨by rfl, rfl⟩) (by assumption) ?_
    try simp only [Act.put, List.setIfInBounds_toArray, List.set_cons_zero, List.set_cons_succ]
    refine take_list (i := 9) (v := undef) rfl (by kernel_rfl) (by kernel_rfl) (by kernel_rfl) (fun _ _ _ h => h) (Or.inr ⟨by rfl, rfl⟩) (by assumption) ?_
    try simp only [Act.put, List.setIfInBounds_toArray, List.set_cons_zero, List.set_cons_succ]
    refine take_list (i := 10) (v := undef) rfl (by kernel_rfl) (by kernel_rfl) (by kernel_rfl) (fun _ _ _ h => h) (Or.inr ⟨by rfl, rfl⟩) (by assumption) ?_
    try simp only [Act.put, List.setIfInBounds_toArray, List.set_cons_zero, List.set_cons_succ]
    refine take_list (i := 11) (v := undef) rfl (by kernel_rfl) (by kernel_rfl) (by kernel_rfl) (fun _ _ _ h => h) (Or.inr ⟨by rfl, rfl⟩) (by assumption) ?_
    try simp only [Act.put, List.setIfInBounds_toArray, List.set_cons_zero, List.set_cons_succ]
    refine take_list (i := 12) (v := undef) rfl (by kernel_rfl) (by kernel_rfl) (by kernel_rfl) (fun _ _ _ h => h) (Or.inr ⟨by rfl, rfl⟩) (by assumption) ?_
    try simp only [Act.put, List.setIfInBounds_toArray, List.set_cons_zero, List.set_cons_succ]
    refine take_list (i := 13) (v := ?_) rfl (by kernel_rfl) (by kernel_rfl) (by kernel_rfl) (fun _ _ _ h => h) (Or.inl ⟨by rfl, ?_⟩) (by assumption) ?_
    rotate_left
    · (intro w hSw; (try dsimp only at hSw); go_simp; try (with_reducible rfl))
    try simp only [Act.put, List.setIfInBounds_toArray, List.set_cons_zero, List.set_cons_succ]
    refine wpAnyH_done (by kernel_rfl) ?_ _
    clear hHeld0
    go_wp2
    exact bodyPost_ret (v := .tuple #[.int .i64 0, .int .i64 60]) (by simp [results, Tryd.results13, go_sem]) rfl ⟨by rw [HF.out.1, HF.out.2], B3d.out⟩

/-! ### The document's table -/
/-- The document's table, of the tag t: its box and its routes. -/
structure RefT (w : World) (ow : Nat → Nat) (t bs : Nat) (most : Int) (L : List RtZ) (A : Option Addr) (c : Nat) : Prop where
  box : w.heap[bs]? = some (.cells #[.int .i64 most, .slice A L.length c] 32 (0, 0))
  rows : RowT w ow t L A c
  ok : ∀ z ∈ L, RtOk z.1
  tb : ow bs = t
section
variable {w w' : World} {ow ow' : Nat → Nat} {t u bs : Nat} {most : Int} {L : List RtZ} {A : Option Addr} {c : Nat}
theorem RefT.chg (a : RefT w ow t bs most L A c) (hc : Chg ow u w w') (h1 : u ≠ t) (h0 : u ≠ 0) : RefT w' ow t bs most L A c :=
  ⟨(hc.block bs (lt_heap a.box) (by rw [a.tb]; exact Ne.symm h1)).trans a.box, a.rows.chg hc h1 h0, a.ok, a.tb⟩
theorem RefT.call (a : RefT w ow t bs most L A c) (hb : Below w.heap.size w w') : RefT w' ow t bs most L A c :=
  ⟨(hb.block bs (lt_heap a.box)).trans a.box, a.rows.call hb, a.ok, a.tb⟩
theorem RefT.retag (a : RefT w ow t bs most L A c) (ha : Agr w ow ow') : RefT w ow' t bs most L A c :=
  ⟨a.box, a.rows.retag ha, a.ok, by rw [ha bs (lt_heap a.box)]; exact a.tb⟩
theorem RefT.step (a : RefT w ow t bs most L A c) (ha : Agr w ow ow') (hc : Chg ow u w w') (h1 : u ≠ t) (h0 : u ≠ 0) : RefT w' ow' t bs most L A c := (a.retag ha).chg (hc.agr ha) h1 h0
theorem RefT.all (a : RefT w ow t bs most L A c) : w.cell? ⟨bs, 0, none⟩ = some (.int .i64 most) ∧ w.cell? ⟨bs, 1, none⟩ = some (.slice A L.length c) :=
  ⟨cell_of_row w _ 0 _ _ _ a.box, cell_of_row w _ 1 _ _ _ a.box⟩
theorem RefT.bs_A (a : RefT w ow t bs most L A c) : some bs ≠ blk A := by
  intro e
  by_cases hc : c = 0
  · rw [a.rows.za hc] at e; simp [blk] at e
  · obtain ⟨g, off, cur, e2, hh, -⟩ := a.rows.row.2.2.2.2.2 (by omega)
    rw [e2] at e; simp [blk] at e; subst e
    rw [a.box] at hh
    injection hh with hh
    injection hh with _ h2
    exact absurd h2 (by decide)
end
set_option maxRecDepth 100000 in
set_option maxHeartbeats 4000000 in
theorem rget8_any (i : Int) {w : World} {ow : Nat → Nat} {t bs : Nat} {most : Int} {L : List RtZ} {A : Option Addr} {c : Nat} (a : RefT w ow t bs most L A c) (hl : L.length ≤ 1000) :
    Calls Tryd.prog 20 #[.pointer (some ⟨bs, 0, none⟩), .int .i64 i] w fun e w' => ∃ A5 c5, e = .returned (rtV (getT (L.map (·.1)) i) A5 c5) ∧ RtR w' w'.heap.size (getT (L.map (·.1)) i) A5 c5 ∧ Below w.heap.size w w' := by
  have AB := Lib.hid (a.call ((Below.refl w.heap.size w).alloc (Nat.le_refl _) (.cells #[.int .i64 0, .int .i64 0, .slice none 0 0] 25)))
  have AX := Lib.hid a
  have O0 := Lib.hid (OutW.begin w)
  clear a
  go_enter Tryd.func20, Tryd.ntmps20
  go_upto_region 1 with fail
  generalize (w.alloc (.cells #[.int .i64 0, .int .i64 0, .slice none 0 0] 25)) = w1 at *
  obtain ⟨g0, g1⟩ := AB.out.all
  obtain ⟨r0, r1, r2⟩ := results_best O0.out.out
  have f0 := O0.out.free 0
  have f1 := O0.out.free 1
  have f2 := O0.out.free 2
  have HN : Hid (∀ wy, RtR wy wy.heap.size rtNone none 0) := Lib.hid (fun wy => ⟨Rd.nil _, Nat.le_refl _, by simp [maxLen]⟩)
  by_cases h0 : i < 0
  · have HE : Hid (getT (L.map (·.1)) i = rtNone) := Lib.hid (by unfold getT; rw [if_neg (by omega)])
    have HB := Lib.hid (O0.out.set rtNone none 0).below
    go_wp2
    exact bodyPost_ret (v := .agg #[.int .i64 0, .int .i64 0, .slice none 0 0]) (by simp [results, Tryd.results20, go_sem, rtNone, r0, r1, r2]) rfl ⟨none, 0, by rw [HE.out]; rfl, by rw [HE.out]; exact HN.out _, HB.out⟩
  obtain ⟨i, rfl⟩ : ∃ k : Nat, i = k := ⟨i.toNat, by omega⟩
  by_cases h1 : L.length ≤ i
  · have HE : Hid (getT (L.map (·.1)) i = rtNone) := Lib.hid (by unfold getT; rw [if_pos (by omega), Int.toNat_natCast, List.getElem?_eq_none (by rw [List.length_map]; exact h1)]; rfl)
    have HB := Lib.hid (O0.out.set rtNone none 0).below
    have hd0 : decide ((i : Int) < 0) = false := decide_eq_false h0
    have hd1 : decide ((L.length : Int) ≤ (i : Int)) = true := decide_eq_true (by omega)
    have hd2 : decide (L.length ≤ i) = true := decide_eq_true h1
    go_wp2
    exact bodyPost_ret (v := .agg #[.int .i64 0, .int .i64 0, .slice none 0 0]) (by simp [results, Tryd.results20, go_sem, rtNone, r0, r1, r2]) rfl ⟨none, 0, by rw [HE.out]; rfl, by rw [HE.out]; exact HN.out _, HB.out⟩
  have hd0 : decide ((i : Int) < 0) = false := decide_eq_false h0
  have hd1 : decide ((L.length : Int) ≤ (i : Int)) = false := decide_eq_false (by omega)
  have hd2 : decide (L.length ≤ i) = false := decide_eq_false h1
  have hi0 : (0 : Int) ≤ (i : Int) := by omega
  have hi1 : (i : Int) < (L.length : Int) := by omega
  have hi2 : i < L.length := by omega
  obtain ⟨z, hz⟩ : ∃ z, L[i]? = some z := ⟨_, List.getElem?_eq_getElem hi2⟩
  have HZ : Hid (getT (L.map (·.1)) i = z.1) := Lib.hid (by unfold getT; rw [if_pos hi0, Int.toNat_natCast, List.getElem?_map, hz]; rfl)
  have HPZ := Lib.hid ((AX.out.rows.each z (List.mem_of_getElem? hz)).rt)
  have HO := Lib.hid (O0.out.set z.1 z.2.1 z.2.2)
  obtain ⟨b, o, rfl, hb, z0, z1, z2⟩ := AB.out.rows.rts.at_ hz
  clear hz h0 h1
  go_wp2
  exact bodyPost_ret (v := .agg #[.int .i64 z.1.kind, .int .i64 z.1.cost, .slice z.2.1 z.1.path.length z.2.2]) (by simp [results, Tryd.results20, go_sem, rtNone, r0, r1, r2]) rfl ⟨z.2.1, z.2.2, by rw [HZ.out]; rfl, by rw [HZ.out]; exact (HPZ.out.below HO.out.below (Nat.le_refl _)).more HO.out.below.size, HO.out.below⟩
theorem idx_le : ∀ {L : List Rt} {r : Rt} {i : Nat}, L[i]? = some r → L.idxOf r ≤ i := by
  intro L
  induction L with
  | nil => intro r i h; simp at h
  | cons x L ih =>
    intro r i h
    rw [List.idxOf_cons]
    by_cases e : x = r
    · subst e; simp
    · have : (x == r) = false := by simp [e]
      rw [this]
      simp only [cond_false]
      cases i with
      | zero => simp at h; exact absurd h e
      | succ i => have := ih (i := i) (by simpa using h); omega
theorem idx_first {L : List Rt} {r : Rt} {i : Nat} (h : L[i]? = some r) (hn : ∀ j < i, L[j]? ≠ some r) : L.idxOf r = i := by
  have h1 := idx_at (List.mem_of_getElem? h)
  have h2 := idx_le h
  by_cases e : L.idxOf r = i
  · exact e
  · exact absurd h1 (hn _ (by omega))
set_option maxRecDepth 100000 in
set_option maxHeartbeats 4000000 in
theorem rfind8_any (r : Rt) (Ar : Option Addr) (cr : Nat) {w : World} {ow : Nat → Nat} {t bs : Nat} {most : Int} {L : List RtZ} {A : Option Addr} {c : Nat} (a : RefT w ow t bs most L A c) (hr : RtR w w.heap.size r Ar cr) (hl : L.length ≤ 1000) :
    Calls Tryd.prog 17 #[.pointer (some ⟨bs, 0, none⟩), rtV r Ar cr] w fun e w' => e = .returned (.int .i64 (findT (L.map (·.1)) r)) ∧ Below w.heap.size w w' := by
  have AB := Lib.hid (a.call ((Below.refl w.heap.size w).alloc (Nat.le_refl _) (.cells #[.int .i64 r.kind, .int .i64 r.cost, .slice Ar r.path.length cr] 25)))
  have B0 := Lib.hid ((Below.refl w.heap.size w).alloc (Nat.le_refl _) (.cells #[.int .i64 r.kind, .int .i64 r.cost, .slice Ar r.path.length cr] 25))
  have BX := Lib.hid (Box.new hr)
  clear a hr
  unfold rtV
  go_enter Tryd.func17, Tryd.ntmps17
  go_upto_region 1 with fail
  generalize (w.alloc (.cells #[.int .i64 r.kind, .int .i64 r.cost, .slice Ar r.path.length cr] 25)) = w1 at *
  have HN : Hid (∀ j : Nat, j < 0 → (L.map (·.1))[j]? ≠ some r) := Lib.hid (fun j hj => absurd hj (Nat.not_lt_zero _))
  go_wp2_with fail
  go_loopw [5] (fun si wx => ∃ i : Nat, i ≤ L.length ∧ si = .int .i64 i ∧ Below w1.heap.size w1 wx ∧ ∀ j < i, (L.map (·.1))[j]? ≠ some r) (fun si _ => L.length - (intOf si).toNat)
  case atStart => exact ⟨0, Nat.zero_le _, rfl, Below.refl _ _, fun j hj => absurd hj (Nat.not_lt_zero _)⟩
  case round =>
    obtain ⟨i, hi, rfl, hb, hn⟩ := hrel
    have HN := Lib.hid hn
    have HB := Lib.hid hb
    have AW := Lib.hid (AB.out.call hb)
    have XW := Lib.hid (BX.out.call hb)
    clear hn hb
    obtain ⟨g0, g1⟩ := AW.out.all
    by_cases hil : i < L.length
    · obtain ⟨z, hz⟩ : ∃ z, L[i]? = some z := ⟨_, List.getElem?_eq_getElem hil⟩
      have HZ := Lib.hid hz
      have HZM := Lib.hid (List.mem_of_getElem? hz)
      obtain ⟨b, o, rfl, hbl, z0, z1, z2⟩ := AW.out.rows.rts.at_ hz
      have hi0 : (0 : Int) ≤ (i : Int) := by omega
      have hil' : (i : Int) < (L.length : Int) := by omega
      clear hz hbl z0 z1 z2
      go_upto_region 4 with fail
      have HC : Hid (∀ wy, Below wr.heap.size wr wy → wy.cell? ⟨bs, 1, none⟩ = some (.slice (some ⟨b, o, none⟩) L.length c) ∧ (wy.cell? ⟨b, o + i * 3, none⟩ = some (.int .i64 z.1.kind) ∧ wy.cell? ⟨b, o + i * 3 + 1, none⟩ = some (.int .i64 z.1.cost) ∧ wy.cell? ⟨b, o + i * 3 + 2, none⟩ = some (.slice z.2.1 z.1.path.length z.2.2)) ∧ wy.cell? ⟨w.heap.size, 0, none⟩ = some (.int .i64 r.kind) ∧ wy.cell? ⟨w.heap.size, 1, none⟩ = some (.int .i64 r.cost) ∧ wy.cell? ⟨w.heap.size, 2, none⟩ = some (.slice Ar r.path.length cr)) := Lib.hid (fun wy hb => by
        obtain ⟨_, _, e, -, z0, z1, z2⟩ := ((AW.out.call hb).rows.rts.at_ HZ.out)
        injection e with e
        injection e with e1 e2
        subst e1 e2
        exact ⟨(AW.out.call hb).all.2, ⟨z0, z1, z2⟩, (XW.out.call hb).at_⟩)
      have CS : Hid (∀ wy, Below wr.heap.size wr wy → Calls Tryd.prog 18 #[.agg #[.int .i64 z.1.kind, .int .i64 z.1.cost, .slice z.2.1 z.1.path.length z.2.2], .agg #[.int .i64 r.kind, .int .i64 r.cost, .slice Ar r.path.length cr]] wy fun e w' => e = .returned (.bool (decide (z.1 = r))) ∧ Below wr.heap.size wr w') := Lib.hid (fun wy hb =>
        (refSame_any z.1 r z.2.1 Ar z.2.2 cr wy ((AW.out.call hb).rows.each z HZM.out).rt (XW.out.call hb).rt).mono fun e w' ⟨h1, h2⟩ => ⟨h1, since_trans hb h2⟩)
      have hBd : Below wr.heap.size wr wr.drew := below_drew (Below.refl _ _)
      clear g0 g1
      refine wp_region_held_drew (S := (fun wy => wy.cell? ⟨bs, 1, none⟩ = some (.slice (some ⟨b, o, none⟩) L.length c) ∧ (wy.cell? ⟨b, o + i * 3, none⟩ = some (.int .i64 z.1.kind) ∧ wy.cell? ⟨b, o + i * 3 + 1, none⟩ = some (.int .i64 z.1.cost) ∧ wy.cell? ⟨b, o + i * 3 + 2, none⟩ = some (.slice z.2.1 z.1.path.length z.2.2)) ∧ wy.cell? ⟨w.heap.size, 0, none⟩ = some (.int .i64 r.kind) ∧ wy.cell? ⟨w.heap.size, 1, none⟩ = some (.int .i64 r.cost) ∧ wy.cell? ⟨w.heap.size, 2, none⟩ = some (.slice Ar r.path.length cr))) (by kernel_rfl) (HC.out _ hBd) (fun hHeld0 => ?_)
      refine take_list (i := 0) (v := ?_) rfl (by kernel_rfl) (by kernel_rfl) (by kernel_rfl) (fun _ _ _ h => h) (Or.inl ⟨by rfl, ?_⟩) (by assumption) ?_
      rotate_left
      · (intro w hSw; (try dsimp only at hSw); go_simp; try (with_reducible rfl))
      try simp only [Act.put, List.setIfInBounds_toArray, List.set_cons_zero, List.set_cons_succ]
      refine take_list (i := 1) (v := ?_) rfl (by kernel_rfl) (by kernel_rfl) (by kernel_rfl) (fun _ _ _ h => h) (Or.inl ⟨by rfl, ?_⟩) (by assumption) ?_
      rotate_left
      · (intro w hSw; (try dsimp only at hSw); go_simp; try (with_reducible rfl))
      try simp only [Act.put, List.setIfInBounds_toArray, List.set_cons_zero, List.set_cons_succ]
      refine take_list (i := 2) (v := ?_) rfl (by kernel_rfl) (by kernel_rfl) (by kernel_rfl) (fun _ _ _ h => h) (Or.inl ⟨by rfl, ?_⟩) (by assumption) ?_
      rotate_left
      · (intro w hSw; (try dsimp only at hSw); go_simp; try (with_reducible rfl))
      try simp only [Act.put, List.setIfInBounds_toArray, List.set_cons_zero, List.set_cons_succ]
      refine take_list (i := 3) (v := ?_) rfl (by kernel_rfl) (by kernel_rfl) (by kernel_rfl) (fun _ _ _ h => h) (Or.inl ⟨by rfl, ?_⟩) (by assumption) ?_
      rotate_left
      · (intro w hSw; (try dsimp only at hSw); go_simp; try (with_reducible rfl))
      try simp only [Act.put, List.setIfInBounds_toArray, List.set_cons_zero, List.set_cons_succ]
      refine take_list (i := 4) (v := ?_) rfl (by kernel_rfl) (by kernel_rfl) (by kernel_rfl) (fun _ _ _ h => h) (Or.inl ⟨by rfl, ?_⟩) (by assumption) ?_
      rotate_left
      · (intro w hSw; (try dsimp only at hSw); go_simp; try (with_reducible rfl))
      try simp only [Act.put, List.setIfInBounds_toArray, List.set_cons_zero, List.set_cons_succ]
      refine take_list (i := 5) (v := ?_) rfl (by kernel_rfl) (by kernel_rfl) (by kernel_rfl) (fun _ _ _ h => h) (Or.inl ⟨by rfl, ?_⟩) (by assumption) ?_
      rotate_left
      · (intro w hSw; (try dsimp only at hSw); go_simp; try (with_reducible rfl))
      try simp only [Act.put, List.setIfInBounds_toArray, List.set_cons_zero, List.set_cons_succ]
      refine take_list (i := 6) (v := ?_) rfl (by kernel_rfl) (by kernel_rfl) (by kernel_rfl) (fun _ _ _ h => h) (Or.inl ⟨by rfl, ?_⟩) (by assumption) ?_
      rotate_left
      · (intro w hSw; (try dsimp only at hSw); go_simp; try (with_reducible rfl))
      try simp only [Act.put, List.setIfInBounds_toArray, List.set_cons_zero, List.set_cons_succ]
      refine take_list (i := 7) (v := ?_) rfl (by kernel_rfl) (by kernel_rfl) (by kernel_rfl) (fun _ _ _ h => h) (Or.inl ⟨by rfl, ?_⟩) (by assumption) ?_
      rotate_left
      · (intro w hSw; (try dsimp only at hSw); go_simp; try (with_reducible rfl))
      try simp only [Act.put, List.setIfInBounds_toArray, List.set_cons_zero, List.set_cons_succ]
      refine wpAnyH_ready (rs := [8]) (by kernel_rfl) (by simp) ?_
      refine cons_list rfl (fun K hK => ?_) AllReadyH.nil
      go_simp
      (go_at_call 18; refine (CS.out _ hBd).mono ?_; rintro e w3 ⟨rfl, hB3⟩)
      refine hK.out _ _ (HC.out _ (by assumption)) (fun hHeld1 => ?_)
      clear hK K hHeld0
      try simp only [Act.put, List.setIfInBounds_toArray, List.set_cons_zero, List.set_cons_succ]
      refine wpAnyH_done (by kernel_rfl) ?_ _
      clear hHeld1
      have B3 := Lib.hid (since_trans HB.out hB3)
      clear hBd hB3
      by_cases hzr : z.1 = r
      · have hd : decide (z.1 = r) = true := decide_eq_true hzr
        have HF : Hid ((i : Int) = findT (L.map (·.1)) r) := Lib.hid (by
          have h1 : (L.map (·.1))[i]? = some r := by rw [List.getElem?_map, HZ.out, ← hzr]; rfl
          unfold findT; rw [if_pos (List.mem_of_getElem? h1), idx_first h1 HN.out])
        clear hzr
        rw [hd]
        go_wp2
        go_ret
        exact ⟨ret_int HF.out, since_trans B0.out B3.out⟩
      · have hd : decide (z.1 = r) = false := decide_eq_false hzr
        have HN2 : Hid (∀ j < i + 1, (L.map (·.1))[j]? ≠ some r) := Lib.hid (fun j hj => by
          by_cases e : j = i
          · subst e; rw [List.getElem?_map, HZ.out]; intro e; injection e with e; exact hzr e
          · exact HN.out j (by omega))
        clear hzr
        rw [hd]
        go_wp2
        go_roundw
        case rel => exact ⟨i + 1, by omega, by go_num, B3.out, HN2.out⟩
        case measure => simp [intOf]; omega
    · have HF : Hid ((-1 : Int) = findT (L.map (·.1)) r) := Lib.hid (by
        unfold findT; rw [if_neg (fun hm => by
          have h1 := idx_lt hm
          rw [List.length_map] at h1
          exact HN.out _ (by omega) (idx_at hm))])
      go_wp2
      go_ret
      exact ⟨ret_int HF.out, since_trans B0.out HB.out⟩
theorem RefT.add {w1 w2 : World} {ow1 : Nat → Nat} {t bs : Nat} {most : Int} {L : List RtZ} {A : Option Addr} {c : Nat} (a : RefT w1 ow1 t bs most L A c) (ht : t ≠ 0) {z : RtZ} (hz : PathAt w1 ow1 z) (hok : RtOk z.1) {A2 : Option Addr} {n c2 : Nat} (hn : n = L.length + 1)
    (hg : w1.grownBy w2 (blk A)) (hown : Own w2 0 25 3 A2 n c2 (L.flatMap rtCells ++ rtCells z)) (hblk : A2 = A ∨ blk A2 = some w1.heap.size) :
    ∃ ow', Agr w1 ow1 ow' ∧ RefT (w2.setCell ⟨bs, 1, none⟩ (.slice A2 n c2)) ow' t bs most (L ++ [z]) A2 c2 ∧ Chg ow1 t w1 (w2.setCell ⟨bs, 1, none⟩ (.slice A2 n c2)) := by
  obtain ⟨ow', h1, h2, h3, -⟩ := a.rows.app ht hz hn hg hown hblk
  have hlt := lt_heap a.box
  have hbox2 := (hg.block bs hlt a.bs_A).trans a.box
  have hbox3 := heap_setCell_same w2 bs 1 _ _ (.slice A2 n c2) hbox2
  have htb : ow' bs = t := by rw [h1 bs hlt]; exact a.tb
  have hc2 : Chg ow' t w2 (w2.setCell ⟨bs, 1, none⟩ (.slice A2 n c2)) := Chg.setCell (q := ⟨bs, 1, none⟩) htb _
  refine ⟨ow', h1, ⟨?_, ⟨?_, h2.za, fun y hy => (h2.each y hy).chg hc2 ht, h2.ta⟩, ?_, htb⟩, h3.trans hc2 (fun k hk => h1 k hk)⟩
  · rw [hbox3]; subst hn; simp
  · exact h2.row.setCell_type (p := ⟨bs, 1, none⟩) hbox2 (by decide) _
  · intro y hy
    rcases List.mem_append.1 hy with hy | hy
    · exact a.ok y hy
    · simp at hy; subst hy; exact hok
/-- What the document's New hands back. -/
def RNewPost (w : World) (most : Int) (e : Ending) (w' : World) : Prop :=
  ∃ g c, e = .returned (.tuple #[.agg #[.int .i64 most, .slice (some ⟨g, 0, none⟩) 1 c], .bool true]) ∧ 0 < c ∧ c ≤ maxLen ∧ w.heap.size ≤ g ∧ Own w' w.heap.size 25 3 (some ⟨g, 0, none⟩) 1 c [.int .i64 0, .int .i64 0, .slice none 0 0] ∧ Below w.heap.size w w'
set_option maxRecDepth 100000 in
set_option maxHeartbeats 4000000 in
theorem rnew8_any (most : Int) (h1 : 1 ≤ most) (h2 : most ≤ 1073741824) (w : World) : Calls Tryd.prog 11 #[.int .i64 most] w (RNewPost w most) := by
  have hb0 : (w.alloc (.cells #[.int .i64 0, .slice none 0 0] 32)).heap[w.heap.size]? = some (.cells #[.int .i64 0, .slice none 0 0] 32 (0, 0)) := heap_alloc_new _ _
  have hB := (Below.refl w.heap.size w).alloc (Nat.le_refl _) (.cells #[.int .i64 0, .slice none 0 0] 32)
  have hsz : (w.alloc (.cells #[.int .i64 0, .slice none 0 0] 32)).heap.size = w.heap.size + 1 := by simp
  have hd1 : decide (most < 1) = false := decide_eq_false (by omega)
  have hd2 : decide (1073741824 < most) = false := decide_eq_false (by omega)
  go_enter Tryd.func11, Tryd.ntmps11
  go_upto_region 3 with fail
  generalize (w.alloc (.cells #[.int .i64 0, .slice none 0 0] 32)) = w1 at *
  have hbb := (hB.alloc (by omega) (.cells #[.int .i64 0, .int .i64 0, .slice none 0 0] 25))
  have hg : (w1.alloc (.cells #[.int .i64 0, .int .i64 0, .slice none 0 0] 25)).heap[w1.heap.size]? = some (.cells #[.int .i64 0, .int .i64 0, .slice none 0 0] 25 (0, 0)) := heap_alloc_new _ _
  have hb2 : Below w1.heap.size w1 (w1.alloc (.cells #[.int .i64 0, .int .i64 0, .slice none 0 0] 25)) := (Below.refl _ _).alloc (Nat.le_refl _) _
  have hg0 := (hb2.block w.heap.size (by omega)).trans hb0
  have HB := Lib.hid ((hbb.setCell (p := ⟨w.heap.size, 0, none⟩) (by simp) (.int .i64 most)).setCell (p := ⟨w.heap.size, 1, none⟩) (by simp) (.slice (some ⟨w1.heap.size, 0, none⟩) 1 1))
  have HO : Hid (Own (((w1.alloc (.cells #[.int .i64 0, .int .i64 0, .slice none 0 0] 25)).setCell ⟨w.heap.size, 0, none⟩ (.int .i64 most)).setCell ⟨w.heap.size, 1, none⟩ (.slice (some ⟨w1.heap.size, 0, none⟩) 1 1)) w.heap.size 25 3 (some ⟨w1.heap.size, 0, none⟩) 1 1 [.int .i64 0, .int .i64 0, .slice none 0 0]) := Lib.hid (by
    refine ⟨rfl, Nat.le_refl _, by simp [maxLen], by simp, by intro g hg; simp [blk] at hg; omega, fun _ => ⟨w1.heap.size, 0, #[.int .i64 0, .int .i64 0, .slice none 0 0], rfl, ?_, ?_, ?_⟩⟩
    · rw [Below.heap_setCell _ _ _ _ (show w1.heap.size ≠ w.heap.size by omega), Below.heap_setCell _ _ _ _ (show w1.heap.size ≠ w.heap.size by omega)]; exact hg
    · simp
    · intro j u hu; simpa using hu)
  have r0 := cell_of_row _ _ 0 _ _ _ hg0
  have r1 := cell_of_row _ _ 1 _ _ _ hg0
  have f0 := frozen_of_row _ _ 0 _ _ hg0
  have f1 := frozen_of_row _ _ 1 _ _ hg0
  have HL := Lib.hid (show w.heap.size ≤ w1.heap.size by omega)
  clear hg hg0 hb2 hbb hB hb0 hsz
  go_wp2
  exact bodyPost_ret (v := .tuple #[.agg #[.int .i64 most, .slice (some ⟨w1.heap.size, 0, none⟩) 1 1], .bool true]) (by simp [results, Tryd.results11, go_sem, r0, r1]) rfl ⟨_, 1, rfl, by decide, by simp [maxLen], HL.out, HO.out, HB.out⟩
set_option maxRecDepth 100000 in
set_option maxHeartbeats 4000000 in
theorem rnew8_no (most : Int) (h : most < 1 ∨ 1073741824 < most) (w : World) : Calls Tryd.prog 11 #[.int .i64 most] w fun e w' => e = .returned (.tuple #[.agg #[.int .i64 0, .slice none 0 0], .bool false]) ∧ Below w.heap.size w w' := by
  have hb0 : (w.alloc (.cells #[.int .i64 0, .slice none 0 0] 32)).heap[w.heap.size]? = some (.cells #[.int .i64 0, .slice none 0 0] 32 (0, 0)) := heap_alloc_new _ _
  have hB := (Below.refl w.heap.size w).alloc (Nat.le_refl _) (.cells #[.int .i64 0, .slice none 0 0] 32)
  have HB := Lib.hid ((hB.setCell (p := ⟨w.heap.size, 0, none⟩) (by simp) (.int .i64 0)).setCell (p := ⟨w.heap.size, 1, none⟩) (by simp) (.slice none 0 0))
  have r0 := cell_of_row _ _ 0 _ _ _ hb0
  have r1 := cell_of_row _ _ 1 _ _ _ hb0
  have f0 := frozen_of_row _ _ 0 _ _ hb0
  have f1 := frozen_of_row _ _ 1 _ _ hb0
  by_cases h1 : most < 1
  · have hd1 : decide (most < 1) = true := decide_eq_true h1
    clear h hB hb0
    go_enter Tryd.func11, Tryd.ntmps11
    go_upto_region 1 with fail
    generalize (w.alloc (.cells #[.int .i64 0, .slice none 0 0] 32)) = w1 at *
    go_wp2
    exact bodyPost_ret (v := .tuple #[.agg #[.int .i64 0, .slice none 0 0], .bool false]) (by simp [results, Tryd.results11, go_sem, r0, r1]) rfl ⟨rfl, HB.out⟩
  · have hd1 : decide (most < 1) = false := decide_eq_false h1
    have hd2 : decide (1073741824 < most) = true := decide_eq_true (by omega)
    clear h hB hb0
    go_enter Tryd.func11, Tryd.ntmps11
    go_upto_region 1 with fail
    generalize (w.alloc (.cells #[.int .i64 0, .slice none 0 0] 32)) = w1 at *
    go_wp2
    exact bodyPost_ret (v := .tuple #[.agg #[.int .i64 0, .slice none 0 0], .bool false]) (by simp [results, Tryd.results11, go_sem, r0, r1]) rfl ⟨rfl, HB.out⟩
/-- Behind the document's Add. -/
def RAddPost (w : World) (ow : Nat → Nat) (t bs : Nat) (most : Int) (L : List RtZ) (r : Rt) (e : Ending) (w' : World) : Prop :=
  ∃ (L' : List RtZ) (A' : Option Addr) (c' : Nat) (ow' : Nat → Nat), e = .returned (.tuple #[.int .i64 (addGN most (L.map (·.1)) r), .int .i64 (addGE most (L.map (·.1)) r)]) ∧ L'.map (·.1) = addGL most (L.map (·.1)) r ∧ Agr w ow ow' ∧ RefT w' ow' t bs most L' A' c' ∧ Chg ow t w w'
set_option maxRecDepth 100000 in
set_option maxHeartbeats 4000000 in
theorem radd8_any (r : Rt) (Ar : Option Addr) (cr : Nat) {w : World} {ow : Nat → Nat} {t bs : Nat} {most : Int} {L : List RtZ} {A : Option Addr} {c : Nat} (a : RefT w ow t bs most L A c) (ht : t ≠ 0) (hr : RtR w w.heap.size r Ar cr) (hm0 : most = 0 → L = []) (hl : L.length ≤ 1000) :
    Calls Tryd.prog 14 #[.pointer (some ⟨bs, 0, none⟩), rtV r Ar cr] w (RAddPost w ow t bs most L r) := by
  have AX := Lib.hid a
  have B0 := Lib.hid ((Below.refl w.heap.size w).alloc (Nat.le_refl _) (.cells #[.int .i64 r.kind, .int .i64 r.cost, .slice Ar r.path.length cr] 25))
  have AB := Lib.hid (a.call B0.out)
  have BX := Lib.hid (Box.new hr)
  have HT := Lib.hid ht
  have HM0 := Lib.hid hm0
  have HSAME : Hid (∀ w', Below w.heap.size w w' → ∀ n e : Int, n = addGN most (L.map (·.1)) r → e = addGE most (L.map (·.1)) r → L.map (·.1) = addGL most (L.map (·.1)) r → RAddPost w ow t bs most L r (.returned (.tuple #[.int .i64 n, .int .i64 e])) w') := Lib.hid (fun w' hb n e h1 h2 h3 => ⟨L, A, c, ow, by rw [h1, h2], h3, Agr.refl _ _, AX.out.call hb, Chg.of_below hb⟩)
  obtain ⟨i3, hi3, hz3, hs3, hb3'⟩ := info_parts Tryd.info_rt
  obtain ⟨i1, hi1, hz1, hs1, hb1⟩ := info_parts Tryd.info_int
  have hbsw := lt_heap a.box
  have HNA : Hid (some w.heap.size ≠ blk A) := Lib.hid (fun e => by
    by_cases hc : c = 0
    · rw [a.rows.za hc] at e; simp [blk] at e
    · have := a.rows.row.ltb (by omega) _ e.symm; omega)
  clear a hr ht hm0
  unfold rtV
  go_enter Tryd.func14, Tryd.ntmps14
  go_upto_region 1 with fail
  generalize (w.alloc (.cells #[.int .i64 r.kind, .int .i64 r.cost, .slice Ar r.path.length cr] 25)) = w1 at *
  obtain ⟨b0, b1, b2⟩ := BX.out.at_
  go_wp2_with fail
  refine (refRight_any r Ar cr _ BX.out.rt).mono ?_
  rintro e w2 ⟨rfl, hb2⟩
  have A2 := Lib.hid (AB.out.call hb2)
  have X2 := Lib.hid (BX.out.call hb2)
  have B2 := Lib.hid (since_trans B0.out hb2)
  clear hb2 b0 b1 b2
  cases hrr : rtRightB r with
  | false =>
    have HF := Lib.hid (HSAME.out _ B2.out 0 1 (by unfold addGN; rw [hrr]; rfl) (by unfold addGE; rw [hrr]; rfl) (by unfold addGL; rw [hrr]; rfl))
    clear hrr
    go_wp2
    exact bodyPost_ret (v := .tuple #[.int .i64 0, .int .i64 1]) (by simp [results, Tryd.results14, go_sem]) rfl HF.out
  | true =>
  have HRR := Lib.hid hrr
  have HOK := Lib.hid (rt_ok hrr)
  clear hrr
  obtain ⟨g0, g1⟩ := A2.out.all
  by_cases hmz : most = 0
  · have hL0 := HM0.out hmz
    have HF := Lib.hid (HSAME.out _ B2.out 0 60 (by unfold addGN addN; rw [HRR.out, if_pos rfl, hL0, hmz]; simp) (by unfold addGE addE; rw [HRR.out, if_pos rfl, hL0, hmz]; simp) (by unfold addGL addL; rw [HRR.out, if_pos rfl, hL0, hmz]; simp))
    have hd : (most == 0) = true := by rw [hmz]; rfl
    clear hmz hL0
    go_wp2
    exact bodyPost_ret (v := .tuple #[.int .i64 0, .int .i64 60]) (by simp [results, Tryd.results14, go_sem]) rfl HF.out
  have hd : (most == 0) = false := by simp [hmz]
  clear hmz
  obtain ⟨b0, b1, b2⟩ := X2.out.at_
  go_wp2_with fail
  refine (rfind8_any r Ar cr A2.out X2.out.rt hl).mono ?_
  rintro e w3 ⟨rfl, hb3⟩
  have A3 := Lib.hid (A2.out.call hb3)
  have X3 := Lib.hid (X2.out.call hb3)
  have B3 := Lib.hid (since_trans B2.out hb3)
  clear hb3 b0 b1 b2 g0 g1 hd
  by_cases hm : r ∈ L.map (·.1)
  · have hft : findT (L.map (·.1)) r = (((L.map (·.1)).idxOf r : Nat) : Int) := by unfold findT; rw [if_pos hm]
    rw [hft]
    have HF := Lib.hid (HSAME.out _ B3.out (((L.map (·.1)).idxOf r : Nat) : Int) 0 (by unfold addGN addN; rw [HRR.out, if_pos rfl, if_pos hm]) (by unfold addGE addE; rw [HRR.out, if_pos rfl, if_pos hm]) (by unfold addGL addL; rw [HRR.out, if_pos rfl, if_pos hm]))
    generalize (L.map (·.1)).idxOf r = ix at *
    have hix : decide ((0 : Int) ≤ (ix : Int)) = true := decide_eq_true (by omega)
    clear hm hft
    go_wp2
    exact bodyPost_ret (v := .tuple #[.int .i64 (ix : Int), .int .i64 0]) (by simp [results, Tryd.results14, go_sem]) rfl HF.out
  have hft : findT (L.map (·.1)) r = -1 := by unfold findT; rw [if_neg hm]
  rw [hft]
  have HM := Lib.hid hm
  clear hm hft
  go_upto_region 9 with fail
  have HC : Hid (∀ wy, Below w3.heap.size w3 wy → wy.cell? ⟨bs, 0, none⟩ = some (.int .i64 most) ∧ wy.cell? ⟨bs, 1, none⟩ = some (.slice A L.length c)) := Lib.hid (fun wy hb => (A3.out.call hb).all)
  have hBd : Below w3.heap.size w3 w3.drew := below_drew (Below.refl _ _)
  by_cases hfull : most ≤ (L.length : Int)
  · have hd : decide (most ≤ (L.length : Int)) = true := decide_eq_true hfull
    have HF := Lib.hid (HSAME.out _ (since_trans B3.out hBd) 0 60 (by unfold addGN addN; rw [HRR.out, if_pos rfl, if_neg HM.out, if_pos (by rw [List.length_map]; exact hfull)]) (by unfold addGE addE; rw [HRR.out, if_pos rfl, if_neg HM.out, if_pos (by rw [List.length_map]; exact hfull)]) (by unfold addGL addL; rw [HRR.out, if_pos rfl, if_neg HM.out, if_pos (by rw [List.length_map]; exact hfull)]))
    clear hfull
    refine wp_region_held_drew (S := (fun wy => wy.cell? ⟨bs, 0, none⟩ = some (.int .i64 most) ∧ wy.cell? ⟨bs, 1, none⟩ = some (.slice A L.length c))) (by kernel_rfl) (HC.out _ hBd) (fun hHeld0 => ?_)
    refine take_list (i := 0) (v := ?_) rfl (by kernel_rfl) (by kernel_rfl) (by kernel_rfl) (fun _ _ _ h => h) (Or.inl ⟨by rfl, ?_⟩) (by assumption) ?_
    rotate_left
    · (intro w hSw; (try dsimp only at hSw); go_simp; try (with_reducible rfl))
    try simp only [Act.put, List.setIfInBounds_toArray, List.set_cons_zero, List.set_cons_succ]
    refine take_list (i := 1) (v := ?_) rfl (by kernel_rfl) (by kernel_rfl) (by kernel_rfl) (fun _ _ _ h => h) (Or.inl ⟨by rfl, ?_⟩) (by assumption) ?_
    rotate_left
    · (intro w hSw; (try dsimp only at hSw); go_simp; try (with_reducible rfl))
    try simp only [Act.put, List.setIfInBounds_toArray, List.set_cons_zero, List.set_cons_succ]
    refine take_list (i := 2) (v := ?_) rfl (by kernel_rfl) (by kernel_rfl) (by kernel_rfl) (fun _ _ _ h => h) (Or.inl ⟨by rfl, ?_⟩) (by assumption) ?_
    rotate_left
    · (intro w hSw; (try dsimp only at hSw); go_simp; try (with_reducible rfl))
    try simp only [Act.put, List.setIfInBounds_toArray, List.set_cons_zero, List.set_cons_succ]
    refine take_list (i := 3) (v := ?_) rfl (by kernel_rfl) (by kernel_rfl) (by kernel_rfl) (fun _ _ _ h => h) (Or.inl ⟨by rfl, ?_⟩) (by assumption) ?_
    rotate_left
    · (intro w hSw; (try dsimp only at hSw); go_simp; try (with_reducible rfl))
    try simp only [Act.put, List.setIfInBounds_toArray, List.set_cons_zero, List.set_cons_succ]
    refine take_list (i := 4) (v := ?_) rfl (by kernel_rfl) (by kernel_rfl) (by kernel_rfl) (fun _ _ _ h => h) (Or.inl ⟨by rfl, ?_⟩) (by assumption) ?_
    rotate_left
    · (intro w hSw; (try dsimp only at hSw); go_simp; try (with_reducible rfl))
    try simp only [Act.put, List.setIfInBounds_toArray, List.set_cons_zero, List.set_cons_succ]
    refine take_list (i := 5) (v := ?_) rfl (by kernel_rfl) (by kernel_rfl) (by kernel_rfl) (fun _ _ _ h => h) (Or.inl ⟨by rfl, ?_⟩) (by assumption) ?_
    rotate_left
    · (intro w hSw; (try dsimp only at hSw); go_simp; try (with_reducible rfl))
    try simp only [Act.put, List.setIfInBounds_toArray, List.set_cons_zero, List.set_cons_succ]
    refine take_list (i := 6) (v := ?_) rfl (by kernel_rfl) (by kernel_rfl) (by kernel_rfl) (fun _ _ _ h => h) (Or.inl ⟨by rfl, ?_⟩) (by assumption) ?_
    rotate_left
    · (intro w hSw; (try dsimp only at hSw); go_simp; try (with_reducible rfl))
    try simp only [Act.put, List.setIfInBounds_toArray, List.set_cons_zero, List.set_cons_succ]
    refine take_list (i := 7) (v := ?_) rfl (by kernel_rfl) (by kernel_rfl) (by kernel_rfl) (fun _ _ _ h => h) (Or.inl ⟨by rfl, ?_⟩) (by assumption) ?_
    rotate_left
    · (intro w hSw; (try dsimp only at hSw); go_simp; try (with_reducible rfl))
    try simp only [Act.put, List.setIfInBounds_toArray, List.set_cons_zero, List.set_cons_succ]
    refine take_list (i := 8) (v := ?_) rfl (by kernel_rfl) (by kernel_rfl) (by kernel_rfl) (fun _ _ _ h => h) (Or.inl ⟨by rfl, ?_⟩) (by assumption) ?_
    rotate_left
    · (intro w hSw; (try dsimp only at hSw); go_simp; try (with_reducible rfl))
    try simp only [Act.put, List.setIfInBounds_toArray, List.set_cons_zero, List.set_cons_succ]
    refine take_list (i := 9) (v := ?_) rfl (by kernel_rfl) (by kernel_rfl) (by kernel_rfl) (fun _ _ _ h => h) (Or.inl ⟨by rfl, ?_⟩) (by assumption) ?_
    rotate_left
    · (intro w hSw; (try dsimp only at hSw); go_simp; try (with_reducible rfl))
    try simp only [Act.put, List.setIfInBounds_toArray, List.set_cons_zero, List.set_cons_succ]
    refine wpAnyH_done (by kernel_rfl) ?_ _
    clear hHeld0
    go_wp2
    exact bodyPost_ret (v := .tuple #[.int .i64 0, .int .i64 60]) (by simp [results, Tryd.results14, go_sem]) rfl HF.out
  have hd : decide (most ≤ (L.length : Int)) = false := decide_eq_false hfull
  have HNF := Lib.hid hfull
  clear hfull
  refine wp_region_held_drew (S := (fun wy => wy.cell? ⟨bs, 0, none⟩ = some (.int .i64 most) ∧ wy.cell? ⟨bs, 1, none⟩ = some (.slice A L.length c))) (by kernel_rfl) (HC.out _ hBd) (fun hHeld0 => ?_)
  refine take_list (i := 0) (v := ?_) rfl (by kernel_rfl) (by kernel_rfl) (by kernel_rfl) (fun _ _ _ h => h) (Or.inl ⟨by rfl, ?_⟩) (by assumption) ?_
  rotate_left
  · (intro w hSw; (try dsimp only at hSw); go_simp; try (with_reducible rfl))
  try simp only [Act.put, List.setIfInBounds_toArray, List.set_cons_zero, List.set_cons_succ]
  refine take_list (i := 1) (v := ?_) rfl (by kernel_rfl) (by kernel_rfl) (by kernel_rfl) (fun _ _ _ h => h) (Or.inl ⟨by rfl, ?_⟩) (by assumption) ?_
  rotate_left
  · (intro w hSw; (try dsimp only at hSw); go_simp; try (with_reducible rfl))
  try simp only [Act.put, List.setIfInBounds_toArray, List.set_cons_zero, List.set_cons_succ]
  refine take_list (i := 2) (v := ?_) rfl (by kernel_rfl) (by kernel_rfl) (by kernel_rfl) (fun _ _ _ h => h) (Or.inl ⟨by rfl, ?_⟩) (by assumption) ?_
  rotate_left
  · (intro w hSw; (try dsimp only at hSw); go_simp; try (with_reducible rfl))
  try simp only [Act.put, List.setIfInBounds_toArray, List.set_cons_zero, List.set_cons_succ]
  refine take_list (i := 3) (v := ?_) rfl (by kernel_rfl) (by kernel_rfl) (by kernel_rfl) (fun _ _ _ h => h) (Or.inl ⟨by rfl, ?_⟩) (by assumption) ?_
  rotate_left
  · (intro w hSw; (try dsimp only at hSw); go_simp; try (with_reducible rfl))
  try simp only [Act.put, List.setIfInBounds_toArray, List.set_cons_zero, List.set_cons_succ]
  refine take_list (i := 4) (v := ?_) rfl (by kernel_rfl) (by kernel_rfl) (by kernel_rfl) (fun _ _ _ h => h) (Or.inl ⟨by rfl, ?_⟩) (by assumption) ?_
  rotate_left
  · (intro w hSw; (try dsimp only at hSw); go_simp; try (with_reducible rfl))
  try simp only [Act.put, List.setIfInBounds_toArray, List.set_cons_zero, List.set_cons_succ]
  refine take_list (i := 5) (v := ?_) rfl (by kernel_rfl) (by kernel_rfl) (by kernel_rfl) (fun _ _ _ h => h) (Or.inl ⟨by rfl, ?_⟩) (by assumption) ?_
  rotate_left
  · (intro w hSw; (try dsimp only at hSw); go_simp; try (with_reducible rfl))
  try simp only [Act.put, List.setIfInBounds_toArray, List.set_cons_zero, List.set_cons_succ]
  refine take_list (i := 6) (v := ?_) rfl (by kernel_rfl) (by kernel_rfl) (by kernel_rfl) (fun _ _ _ h => h) (Or.inl ⟨by rfl, ?_⟩) (by assumption) ?_
  rotate_left
  · (intro w hSw; (try dsimp only at hSw); go_simp; try (with_reducible rfl))
  try simp only [Act.put, List.setIfInBounds_toArray, List.set_cons_zero, List.set_cons_succ]
  refine take_list (i := 7) (v := ?_) rfl (by kernel_rfl) (by kernel_rfl) (by kernel_rfl) (fun _ _ _ h => h) (Or.inl ⟨by rfl, ?_⟩) (by assumption) ?_
  rotate_left
  · (intro w hSw; (try dsimp only at hSw); go_simp; try (with_reducible rfl))
  try simp only [Act.put, List.setIfInBounds_toArray, List.set_cons_zero, List.set_cons_succ]
  refine take_list (i := 8) (v := ?_) rfl (by kernel_rfl) (by kernel_rfl) (by kernel_rfl) (fun _ _ _ h => h) (Or.inl ⟨by rfl, ?_⟩) (by assumption) ?_
  rotate_left
  · (intro w hSw; (try dsimp only at hSw); go_simp; try (with_reducible rfl))
  try simp only [Act.put, List.setIfInBounds_toArray, List.set_cons_zero, List.set_cons_succ]
  refine take_list (i := 9) (v := ?_) rfl (by kernel_rfl) (by kernel_rfl) (by kernel_rfl) (fun _ _ _ h => h) (Or.inl ⟨by rfl, ?_⟩) (by assumption) ?_
  rotate_left
  · (intro w hSw; (try dsimp only at hSw); go_simp; try (with_reducible rfl))
  try simp only [Act.put, List.setIfInBounds_toArray, List.set_cons_zero, List.set_cons_succ]
  refine wpAnyH_done (by kernel_rfl) ?_ _
  clear hHeld0
  go_upto_region 11 with fail
  have A4 := Lib.hid (A3.out.call hBd)
  have X4 := Lib.hid (X3.out.call hBd)
  have B4 := Lib.hid (since_trans B3.out hBd)
  have HNN : Hid (addGN most (L.map (·.1)) r = (L.length : Int) ∧ addGE most (L.map (·.1)) r = 0 ∧ addGL most (L.map (·.1)) r = L.map (·.1) ++ [r]) := Lib.hid (by
    unfold addGN addGE addGL addN addE addL
    rw [HRR.out, if_pos rfl, if_pos rfl, if_pos rfl, if_neg HM.out, if_neg HM.out, if_neg HM.out, List.length_map, if_neg HNF.out, if_neg HNF.out, if_neg HNF.out]
    exact ⟨rfl, rfl, rfl⟩)
  have hpl : r.path.length ≤ 1000000 := HOK.out.prints.2.2
  clear hBd hd HC
  generalize w3.drew = wd at *
  have HC : Hid (∀ wy : World, wy.heap[w.heap.size]? = some (.cells #[.int .i64 r.kind, .int .i64 r.cost, .slice Ar r.path.length cr] 25 (0, 0)) → wy.cell? ⟨w.heap.size, 0, none⟩ = some (.int .i64 r.kind) ∧ wy.cell? ⟨w.heap.size, 1, none⟩ = some (.int .i64 r.cost) ∧ wy.cell? ⟨w.heap.size, 2, none⟩ = some (.slice Ar r.path.length cr)) := Lib.hid (fun wy b => results_best b)
  have HG : Hid (∀ wy, Below wd.heap.size wd wy → wy.cell? ⟨bs, 1, none⟩ = some (.slice A L.length c)) := Lib.hid (fun wy hb => (A4.out.call hb).all.2)
  have hBe : Below wd.heap.size wd wd.drew := below_drew (Below.refl _ _)
  have hXd : wd.drew.heap[w.heap.size]? = some (.cells #[.int .i64 r.kind, .int .i64 r.cost, .slice Ar r.path.length cr] 25 (0, 0)) := X4.out.box
  have q1 := HG.out _ hBe
  have hnl : w.heap.size < wd.heap.size := lt_heap X4.out.box
  refine wp_region_held_drew (S := (fun wy => wy.cell? ⟨w.heap.size, 0, none⟩ = some (.int .i64 r.kind) ∧ wy.cell? ⟨w.heap.size, 1, none⟩ = some (.int .i64 r.cost) ∧ wy.cell? ⟨w.heap.size, 2, none⟩ = some (.slice Ar r.path.length cr))) (by kernel_rfl) (HC.out _ hXd) (fun hHeld0 => ?_)
  refine take_list (i := 0) (v := ?_) rfl (by kernel_rfl) (by kernel_rfl) (by kernel_rfl) (fun _ _ _ h => h) (Or.inl ⟨by rfl, ?_⟩) (by assumption) ?_
  rotate_left
  · (intro w hSw; (try dsimp only at hSw); go_simp; try (with_reducible rfl))
  try simp only [Act.put, List.setIfInBounds_toArray, List.set_cons_zero, List.set_cons_succ]
  refine take_list (i := 1) (v := ?_) rfl (by kernel_rfl) (by kernel_rfl) (by kernel_rfl) (fun _ _ _ h => h) (Or.inl ⟨by rfl, ?_⟩) (by assumption) ?_
  rotate_left
  · (intro w hSw; (try dsimp only at hSw); go_simp; try (with_reducible rfl))
  try simp only [Act.put, List.setIfInBounds_toArray, List.set_cons_zero, List.set_cons_succ]
  refine take_list (i := 2) (v := ?_) rfl (by kernel_rfl) (by kernel_rfl) (by kernel_rfl) (fun _ _ _ h => h) (Or.inl ⟨by rfl, ?_⟩) (by assumption) ?_
  rotate_left
  · (intro w hSw; (try dsimp only at hSw); go_simp; try (with_reducible rfl))
  try simp only [Act.put, List.setIfInBounds_toArray, List.set_cons_zero, List.set_cons_succ]
  refine take_list (i := 3) (v := ?_) rfl (by kernel_rfl) (by kernel_rfl) (by kernel_rfl) (fun _ _ _ h => h) (Or.inl ⟨by rfl, ?_⟩) (by assumption) ?_
  rotate_left
  · (intro w hSw; (try dsimp only at hSw); go_simp; try (with_reducible rfl))
  try simp only [Act.put, List.setIfInBounds_toArray, List.set_cons_zero, List.set_cons_succ]
  refine take_list (i := 5) (v := ?_) rfl (by kernel_rfl) (by kernel_rfl) (by kernel_rfl) (fun _ _ _ h => h) (Or.inl ⟨by rfl, ?_⟩) (by assumption) ?_
  rotate_left
  · (intro w hSw; (try dsimp only at hSw); go_simp; try (with_reducible rfl))
  try simp only [Act.put, List.setIfInBounds_toArray, List.set_cons_zero, List.set_cons_succ]
  refine take_list (i := 6) (v := ?_) rfl (by kernel_rfl) (by kernel_rfl) (by kernel_rfl) (fun _ _ _ h => h) (Or.inl ⟨by rfl, ?_⟩) (by assumption) ?_
  rotate_left
  · (intro w hSw; (try dsimp only at hSw); go_simp; try (with_reducible rfl))
  try simp only [Act.put, List.setIfInBounds_toArray, List.set_cons_zero, List.set_cons_succ]
  refine take_list (i := 7) (v := ?_) rfl (by kernel_rfl) (by kernel_rfl) (by kernel_rfl) (fun _ _ _ h => h) (Or.inl ⟨by rfl, ?_⟩) (by assumption) ?_
  rotate_left
  · (intro w hSw; (try dsimp only at hSw); go_simp; try (with_reducible rfl))
  try simp only [Act.put, List.setIfInBounds_toArray, List.set_cons_zero, List.set_cons_succ]
  refine take_list (i := 8) (v := ?_) rfl (by kernel_rfl) (by kernel_rfl) (by kernel_rfl) (fun _ _ _ h => h) (Or.inl ⟨by rfl, ?_⟩) (by assumption) ?_
  rotate_left
  · (intro w hSw; (try dsimp only at hSw); go_simp; try (with_reducible rfl))
  try simp only [Act.put, List.setIfInBounds_toArray, List.set_cons_zero, List.set_cons_succ]
  refine take_list (i := 9) (v := ?_) rfl (by kernel_rfl) (by kernel_rfl) (by kernel_rfl) (fun _ _ _ h => h) (Or.inl ⟨by rfl, ?_⟩) (by assumption) ?_
  rotate_left
  · (intro w hSw; (try dsimp only at hSw); go_simp; try (with_reducible rfl))
  try simp only [Act.put, List.setIfInBounds_toArray, List.set_cons_zero, List.set_cons_succ]
  refine take_list (i := 10) (v := ?_) rfl (by kernel_rfl) (by kernel_rfl) (by kernel_rfl) (fun _ _ _ h => h) (Or.inl ⟨by rfl, ?_⟩) (by assumption) ?_
  rotate_left
  · (intro w hSw; (try dsimp only at hSw); go_simp; try (with_reducible rfl))
  try simp only [Act.put, List.setIfInBounds_toArray, List.set_cons_zero, List.set_cons_succ]
  refine wpAnyH_ready (rs := [4, 11]) (by kernel_rfl) (by simp) ?_
  refine cons_list rfl (fun K hK => ?_) (cons_list rfl (fun K hK => ?_) AllReadyH.nil)
  ·
    go_simp
    refine hK.out _ _ (HC.out _ (by assumption)) (fun hHeld1 => ?_)
    clear hK K hHeld0
    try simp only [Act.put, List.setIfInBounds_toArray, List.set_cons_zero, List.set_cons_succ]
    refine wpAnyH_ready (rs := [11]) (by kernel_rfl) (by simp) ?_
    refine cons_list rfl (fun K hK => ?_) AllReadyH.nil
    (refine step_app _ (by rfl) _ _ 23 (by rfl) wd.heap.size 3 i1 (.int .i64 0) 1 8 Tryd.underlying23 hi1 hz1 hs1 hb1 rfl (by decide) none 0 0 [] (by rfl) (Own.nil _ _ _ _) Ar r.path.length _ (ints r.path) (by rfl) (X4.out.call hBe).rt.1 (by intro u hu; simp [ints] at hu; obtain ⟨z, _, rfl⟩ := hu; rfl) (by unfold maxLen; omega) (by omega) (Nat.le_refl _) ?_; intro A5 c5 w5 hown5 hgrow5 hblk5 _; rw [Nat.zero_add] at hown5 ⊢; rw [List.nil_append] at hown5; have hB5 : Below wd.heap.size wd w5 := hBe.grown hgrow5 (Nat.le_refl _) (by intro g hg; simp [blk] at hg); have hB6 : Below wd.heap.size wd (w5.alloc (.cells #[.int .i64 r.kind, .int .i64 r.cost, .slice A5 r.path.length c5] 25)) := hB5.alloc hB5.size _; have hX5 := (hB5.block _ hnl).trans X4.out.box; have hX6 := (hB6.block _ hnl).trans X4.out.box; have q5 := HG.out _ hB5; have q6 := HG.out _ hB6)
    refine hK.out _ _ (HC.out _ (by assumption)) (fun hHeld2 => ?_)
    clear hK K hHeld1
    try simp only [Act.put, List.setIfInBounds_toArray, List.set_cons_zero, List.set_cons_succ]
    refine take_list (i := 12) (v := ?_) rfl (by kernel_rfl) (by kernel_rfl) (by kernel_rfl) (fun _ _ _ h => h) (Or.inl ⟨by rfl, ?_⟩) (by assumption) ?_
    rotate_left
    · (intro w hSw; (try dsimp only at hSw); go_simp; try (with_reducible rfl))
    try simp only [Act.put, List.setIfInBounds_toArray, List.set_cons_zero, List.set_cons_succ]
    refine wpAnyH_ready (rs := [13]) (by kernel_rfl) (by simp) ?_
    refine cons_list rfl (fun K hK => ?_) AllReadyH.nil
    go_simp
    refine hK.out _ _ (HC.out _ (by assumption)) (fun hHeld3 => ?_)
    clear hK K hHeld2
    try simp only [Act.put, List.setIfInBounds_toArray, List.set_cons_zero, List.set_cons_succ]
    refine wpAnyH_ready (rs := [14]) (by kernel_rfl) (by simp) ?_
    refine cons_list rfl (fun K hK => ?_) AllReadyH.nil
    (refine step_app _ (by rfl) _ _ 30 (by rfl) 0 25 i3 _ 3 40 Tryd.underlying30 hi3 hz3 hs3 hb3' rfl (by decide) _ _ _ (L.flatMap rtCells) (by rfl) (A4.out.call hB6).rows.row _ 1 _ (rtCells ((r, (A5, c5)) : RtZ)) (by rfl) (Rd.new (by simp) rfl) (by intro x hx; simp [rtCells] at hx; rcases hx with rfl | rfl | rfl <;> rfl) (by unfold maxLen; omega) (by omega) (Nat.zero_le _) ?_; intro A7 c7 w7 hown7 hgrow7 hblk7 _; have hs6 := hB6.size; have hX7 := (hgrow7.block w.heap.size (by omega) HNA.out).trans hX6; have hbx7 := (hgrow7.block bs (lt_heap (A4.out.call hB6).box) (A4.out.call hB6).bs_A).trans (A4.out.call hB6).box; have q7 := cell_of_row w7 bs 1 _ _ _ hbx7; have f7 := frozen_of_row w7 bs 1 _ _ hbx7; have hX8 : (w7.setCell ⟨bs, 1, none⟩ (.slice A7 (L.length + 1) c7)).heap[w.heap.size]? = some (.cells #[.int .i64 r.kind, .int .i64 r.cost, .slice Ar r.path.length cr] 25 (0, 0)) := (Below.heap_setCell _ _ _ _ (show w.heap.size ≠ bs by omega)).trans hX7)
    refine hK.out _ _ (HC.out _ (by assumption)) (fun hHeld4 => ?_)
    clear hK K hHeld3
    try simp only [Act.put, List.setIfInBounds_toArray, List.set_cons_zero, List.set_cons_succ]
    refine take_list (i := 15) (v := ?_) rfl (by kernel_rfl) (by kernel_rfl) (by kernel_rfl) (fun _ _ _ h => h) (Or.inl ⟨by rfl, ?_⟩) (by assumption) ?_
    rotate_left
    · (intro w hSw; (try dsimp only at hSw); go_simp; try (with_reducible rfl))
    try simp only [Act.put, List.setIfInBounds_toArray, List.set_cons_zero, List.set_cons_succ]
    refine take_list (i := 16) (v := ?_) rfl (by kernel_rfl) (by kernel_rfl) (by kernel_rfl) (fun _ _ _ h => h) (Or.inl ⟨by rfl, ?_⟩) (by assumption) ?_
    rotate_left
    · (intro w hSw; (try dsimp only at hSw); go_simp; try (with_reducible rfl))
    try simp only [Act.put, List.setIfInBounds_toArray, List.set_cons_zero, List.set_cons_succ]
    refine wpAnyH_ready (rs := [17]) (by kernel_rfl) (by simp) ?_
    refine cons_list rfl (fun K hK => ?_) AllReadyH.nil
    go_simp
    refine hK.out _ _ (HC.out _ (by assumption)) (fun hHeld5 => ?_)
    clear hK K hHeld4
    try simp only [Act.put, List.setIfInBounds_toArray, List.set_cons_zero, List.set_cons_succ]
    refine wpAnyH_done (by kernel_rfl) ?_ _
    clear hHeld5
    have HIN := Lib.hid (⟨hB6, hown5, hgrow7, hown7, hblk7, hB5⟩ : _ ∧ _ ∧ _ ∧ _ ∧ _ ∧ _)
    clear hX7 hX8 hbx7 q7 f7 hX5 hX6 q5 q6 hB5 hB6 hs6 hown5 hgrow5 hblk5 hown7 hgrow7 hblk7 hBe hXd q1
    obtain ⟨ow1, ho1, ho2⟩ := tag_new wd (fun k => if k < w.heap.size then ow k else 0) 0
    obtain ⟨hB6, hown5, hgrow7, hown7, hblk7, hB5⟩ := HIN.out
    have hbw := B4.out.size
    have hag0 : Agr w ow ow1 := fun k hk => by rw [ho1 k (by omega)]; exact if_pos hk
    have R6 : RefT (w5.alloc (.cells #[.int .i64 r.kind, .int .i64 r.cost, .slice A5 r.path.length c5] 25)) ow1 t bs most L A c := (((AX.out.retag hag0).call B4.out).call hB6)
    have hP : PathAt (w5.alloc (.cells #[.int .i64 r.kind, .int .i64 r.cost, .slice A5 r.path.length c5] 25)) ow1 ((r, (A5, c5)) : RtZ) := (PathAt.fresh (w0 := wd) (z := ((r, (A5, c5)) : RtZ)) (.inl hown5) ho2).call ((Below.refl _ _).alloc (Nat.le_refl _) _)
    obtain ⟨ow', h1, h2, h3⟩ := R6.add HT.out hP HOK.out rfl hgrow7 hown7 hblk7
    have HR := Lib.hid h2
    have hs6 := hB6.size
    have HF : Hid (RAddPost w ow t bs most L r (.returned (.tuple #[.int .i64 (L.length : Int), .int .i64 0])) (w7.setCell ⟨bs, 1, none⟩ (.slice A7 (L.length + 1) c7))) := Lib.hid ⟨L ++ [((r, (A5, c5)) : RtZ)], A7, c7, ow', by rw [HNN.out.1, HNN.out.2.1], by rw [HNN.out.2.2, List.map_append]; rfl, fun k hk => (h1 k (by omega)).trans (hag0 k hk), h2, ((Chg.of_below B4.out).then (Chg.of_below hB6)).trans h3 hag0⟩
    clear h1 h2 h3 hP R6 hag0 ho1 ho2 hB6 hown5 hgrow7 hown7 hblk7 hB5
    generalize w7.setCell ⟨bs, 1, none⟩ (.slice A7 (L.length + 1) c7) = w8 at *
    obtain ⟨g0, g1⟩ := HR.out.all
    rw [List.length_append] at g1
    have hw1 : IntKind.i64.wrap ((L.length : Int) + 1 - 1) = (L.length : Int) := by rw [IntWalk.i64_in _ (by omega)]; omega
    have hw2 : IntKind.i64.wrap (L.length : Int) = (L.length : Int) := IntWalk.i64_in _ (by omega)
    go_wp2
    exact bodyPost_ret (v := .tuple #[.int .i64 (L.length : Int), .int .i64 0]) (by simp [results, Tryd.results14, go_sem]) rfl HF.out
  ·
    (refine step_app _ (by rfl) _ _ 23 (by rfl) wd.heap.size 3 i1 (.int .i64 0) 1 8 Tryd.underlying23 hi1 hz1 hs1 hb1 rfl (by decide) none 0 0 [] (by rfl) (Own.nil _ _ _ _) Ar r.path.length _ (ints r.path) (by rfl) (X4.out.call hBe).rt.1 (by intro u hu; simp [ints] at hu; obtain ⟨z, _, rfl⟩ := hu; rfl) (by unfold maxLen; omega) (by omega) (Nat.le_refl _) ?_; intro A5 c5 w5 hown5 hgrow5 hblk5 _; rw [Nat.zero_add] at hown5 ⊢; rw [List.nil_append] at hown5; have hB5 : Below wd.heap.size wd w5 := hBe.grown hgrow5 (Nat.le_refl _) (by intro g hg; simp [blk] at hg); have hB6 : Below wd.heap.size wd (w5.alloc (.cells #[.int .i64 r.kind, .int .i64 r.cost, .slice A5 r.path.length c5] 25)) := hB5.alloc hB5.size _; have hX5 := (hB5.block _ hnl).trans X4.out.box; have hX6 := (hB6.block _ hnl).trans X4.out.box; have q5 := HG.out _ hB5; have q6 := HG.out _ hB6)
    refine hK.out _ _ (HC.out _ (by assumption)) (fun hHeld1 => ?_)
    clear hK K hHeld0
    try simp only [Act.put, List.setIfInBounds_toArray, List.set_cons_zero, List.set_cons_succ]
    refine take_list (i := 12) (v := ?_) rfl (by kernel_rfl) (by kernel_rfl) (by kernel_rfl) (fun _ _ _ h => h) (Or.inl ⟨by rfl, ?_⟩) (by assumption) ?_
    rotate_left
    · (intro w hSw; (try dsimp only at hSw); go_simp; try (with_reducible rfl))
    try simp only [Act.put, List.setIfInBounds_toArray, List.set_cons_zero, List.set_cons_succ]
    refine wpAnyH_ready (rs := [4, 13]) (by kernel_rfl) (by simp) ?_
    refine cons_list rfl (fun K hK => ?_) (cons_list rfl (fun K hK => ?_) AllReadyH.nil)
    ·
      go_simp
      refine hK.out _ _ (HC.out _ (by assumption)) (fun hHeld2 => ?_)
      clear hK K hHeld1
      try simp only [Act.put, List.setIfInBounds_toArray, List.set_cons_zero, List.set_cons_succ]
      refine wpAnyH_ready (rs := [13]) (by kernel_rfl) (by simp) ?_
      refine cons_list rfl (fun K hK => ?_) AllReadyH.nil
      go_simp
      refine hK.out _ _ (HC.out _ (by assumption)) (fun hHeld3 => ?_)
      clear hK K hHeld2
      try simp only [Act.put, List.setIfInBounds_toArray, List.set_cons_zero, List.set_cons_succ]
      refine wpAnyH_ready (rs := [14]) (by kernel_rfl) (by simp) ?_
      refine cons_list rfl (fun K hK => ?_) AllReadyH.nil
      (refine step_app _ (by rfl) _ _ 30 (by rfl) 0 25 i3 _ 3 40 Tryd.underlying30 hi3 hz3 hs3 hb3' rfl (by decide) _ _ _ (L.flatMap rtCells) (by rfl) (A4.out.call hB6).rows.row _ 1 _ (rtCells ((r, (A5, c5)) : RtZ)) (by rfl) (Rd.new (by simp) rfl) (by intro x hx; simp [rtCells] at hx; rcases hx with rfl | rfl | rfl <;> rfl) (by unfold maxLen; omega) (by omega) (Nat.zero_le _) ?_; intro A7 c7 w7 hown7 hgrow7 hblk7 _; have hs6 := hB6.size; have hX7 := (hgrow7.block w.heap.size (by omega) HNA.out).trans hX6; have hbx7 := (hgrow7.block bs (lt_heap (A4.out.call hB6).box) (A4.out.call hB6).bs_A).trans (A4.out.call hB6).box; have q7 := cell_of_row w7 bs 1 _ _ _ hbx7; have f7 := frozen_of_row w7 bs 1 _ _ hbx7; have hX8 : (w7.setCell ⟨bs, 1, none⟩ (.slice A7 (L.length + 1) c7)).heap[w.heap.size]? = some (.cells #[.int .i64 r.kind, .int .i64 r.cost, .slice Ar r.path.length cr] 25 (0, 0)) := (Below.heap_setCell _ _ _ _ (show w.heap.size ≠ bs by omega)).trans hX7)
      refine hK.out _ _ (HC.out _ (by assumption)) (fun hHeld4 => ?_)
      clear hK K hHeld3
      try simp only [Act.put, List.setIfInBounds_toArray, List.set_cons_zero, List.set_cons_succ]
      refine take_list (i := 15) (v := ?_) rfl (by kernel_rfl) (by kernel_rfl) (by kernel_rfl) (fun _ _ _ h => h) (Or.inl ⟨by rfl, ?_⟩) (by assumption) ?_
      rotate_left
      · (intro w hSw; (try dsimp only at hSw); go_simp; try (with_reducible rfl))
      try simp only [Act.put, List.setIfInBounds_toArray, List.set_cons_zero, List.set_cons_succ]
      refine take_list (i := 16) (v := ?_) rfl (by kernel_rfl) (by kernel_rfl) (by kernel_rfl) (fun _ _ _ h => h) (Or.inl ⟨by rfl, ?_⟩) (by assumption) ?_
      rotate_left
      · (intro w hSw; (try dsimp only at hSw); go_simp; try (with_reducible rfl))
      try simp only [Act.put, List.setIfInBounds_toArray, List.set_cons_zero, List.set_cons_succ]
      refine wpAnyH_ready (rs := [17]) (by kernel_rfl) (by simp) ?_
      refine cons_list rfl (fun K hK => ?_) AllReadyH.nil
      go_simp
      refine hK.out _ _ (HC.out _ (by assumption)) (fun hHeld5 => ?_)
      clear hK K hHeld4
      try simp only [Act.put, List.setIfInBounds_toArray, List.set_cons_zero, List.set_cons_succ]
      refine wpAnyH_done (by kernel_rfl) ?_ _
      clear hHeld5
      have HIN := Lib.hid (⟨hB6, hown5, hgrow7, hown7, hblk7, hB5⟩ : _ ∧ _ ∧ _ ∧ _ ∧ _ ∧ _)
      clear hX7 hX8 hbx7 q7 f7 hX5 hX6 q5 q6 hB5 hB6 hs6 hown5 hgrow5 hblk5 hown7 hgrow7 hblk7 hBe hXd q1
      obtain ⟨ow1, ho1, ho2⟩ := tag_new wd (fun k => if k < w.heap.size then ow k else 0) 0
      obtain ⟨hB6, hown5, hgrow7, hown7, hblk7, hB5⟩ := HIN.out
      have hbw := B4.out.size
      have hag0 : Agr w ow ow1 := fun k hk => by rw [ho1 k (by omega)]; exact if_pos hk
      have R6 : RefT (w5.alloc (.cells #[.int .i64 r.kind, .int .i64 r.cost, .slice A5 r.path.length c5] 25)) ow1 t bs most L A c := (((AX.out.retag hag0).call B4.out).call hB6)
      have hP : PathAt (w5.alloc (.cells #[.int .i64 r.kind, .int .i64 r.cost, .slice A5 r.path.length c5] 25)) ow1 ((r, (A5, c5)) : RtZ) := (PathAt.fresh (w0 := wd) (z := ((r, (A5, c5)) : RtZ)) (.inl hown5) ho2).call ((Below.refl _ _).alloc (Nat.le_refl _) _)
      obtain ⟨ow', h1, h2, h3⟩ := R6.add HT.out hP HOK.out rfl hgrow7 hown7 hblk7
      have HR := Lib.hid h2
      have hs6 := hB6.size
      have HF : Hid (RAddPost w ow t bs most L r (.returned (.tuple #[.int .i64 (L.length : Int), .int .i64 0])) (w7.setCell ⟨bs, 1, none⟩ (.slice A7 (L.length + 1) c7))) := Lib.hid ⟨L ++ [((r, (A5, c5)) : RtZ)], A7, c7, ow', by rw [HNN.out.1, HNN.out.2.1], by rw [HNN.out.2.2, List.map_append]; rfl, fun k hk => (h1 k (by omega)).trans (hag0 k hk), h2, ((Chg.of_below B4.out).then (Chg.of_below hB6)).trans h3 hag0⟩
      clear h1 h2 h3 hP R6 hag0 ho1 ho2 hB6 hown5 hgrow7 hown7 hblk7 hB5
      generalize w7.setCell ⟨bs, 1, none⟩ (.slice A7 (L.length + 1) c7) = w8 at *
      obtain ⟨g0, g1⟩ := HR.out.all
      rw [List.length_append] at g1
      have hw1 : IntKind.i64.wrap ((L.length : Int) + 1 - 1) = (L.length : Int) := by rw [IntWalk.i64_in _ (by omega)]; omega
      have hw2 : IntKind.i64.wrap (L.length : Int) = (L.length : Int) := IntWalk.i64_in _ (by omega)
      go_wp2
      exact bodyPost_ret (v := .tuple #[.int .i64 (L.length : Int), .int .i64 0]) (by simp [results, Tryd.results14, go_sem]) rfl HF.out
    ·
      go_simp
      refine hK.out _ _ (HC.out _ (by assumption)) (fun hHeld2 => ?_)
      clear hK K hHeld1
      try simp only [Act.put, List.setIfInBounds_toArray, List.set_cons_zero, List.set_cons_succ]
      refine wpAnyH_ready (rs := [4]) (by kernel_rfl) (by simp) ?_
      refine cons_list rfl (fun K hK => ?_) AllReadyH.nil
      go_simp
      refine hK.out _ _ (HC.out _ (by assumption)) (fun hHeld3 => ?_)
      clear hK K hHeld2
      try simp only [Act.put, List.setIfInBounds_toArray, List.set_cons_zero, List.set_cons_succ]
      refine wpAnyH_ready (rs := [14]) (by kernel_rfl) (by simp) ?_
      refine cons_list rfl (fun K hK => ?_) AllReadyH.nil
      (refine step_app _ (by rfl) _ _ 30 (by rfl) 0 25 i3 _ 3 40 Tryd.underlying30 hi3 hz3 hs3 hb3' rfl (by decide) _ _ _ (L.flatMap rtCells) (by rfl) (A4.out.call hB6).rows.row _ 1 _ (rtCells ((r, (A5, c5)) : RtZ)) (by rfl) (Rd.new (by simp) rfl) (by intro x hx; simp [rtCells] at hx; rcases hx with rfl | rfl | rfl <;> rfl) (by unfold maxLen; omega) (by omega) (Nat.zero_le _) ?_; intro A7 c7 w7 hown7 hgrow7 hblk7 _; have hs6 := hB6.size; have hX7 := (hgrow7.block w.heap.size (by omega) HNA.out).trans hX6; have hbx7 := (hgrow7.block bs (lt_heap (A4.out.call hB6).box) (A4.out.call hB6).bs_A).trans (A4.out.call hB6).box; have q7 := cell_of_row w7 bs 1 _ _ _ hbx7; have f7 := frozen_of_row w7 bs 1 _ _ hbx7; have hX8 : (w7.setCell ⟨bs, 1, none⟩ (.slice A7 (L.length + 1) c7)).heap[w.heap.size]? = some (.cells #[.int .i64 r.kind, .int .i64 r.cost, .slice Ar r.path.length cr] 25 (0, 0)) := (Below.heap_setCell _ _ _ _ (show w.heap.size ≠ bs by omega)).trans hX7)
      refine hK.out _ _ (HC.out _ (by assumption)) (fun hHeld4 => ?_)
      clear hK K hHeld3
      try simp only [Act.put, List.setIfInBounds_toArray, List.set_cons_zero, List.set_cons_succ]
      refine take_list (i := 15) (v := ?_) rfl (by kernel_rfl) (by kernel_rfl) (by kernel_rfl) (fun _ _ _ h => h) (Or.inl ⟨by rfl, ?_⟩) (by assumption) ?_
      rotate_left
      · (intro w hSw; (try dsimp only at hSw); go_simp; try (with_reducible rfl))
      try simp only [Act.put, List.setIfInBounds_toArray, List.set_cons_zero, List.set_cons_succ]
      refine take_list (i := 16) (v := ?_) rfl (by kernel_rfl) (by kernel_rfl) (by kernel_rfl) (fun _ _ _ h => h) (Or.inl ⟨by rfl, ?_⟩) (by assumption) ?_
      rotate_left
      · (intro w hSw; (try dsimp only at hSw); go_simp; try (with_reducible rfl))
      try simp only [Act.put, List.setIfInBounds_toArray, List.set_cons_zero, List.set_cons_succ]
      refine wpAnyH_ready (rs := [17]) (by kernel_rfl) (by simp) ?_
      refine cons_list rfl (fun K hK => ?_) AllReadyH.nil
      go_simp
      refine hK.out _ _ (HC.out _ (by assumption)) (fun hHeld5 => ?_)
      clear hK K hHeld4
      try simp only [Act.put, List.setIfInBounds_toArray, List.set_cons_zero, List.set_cons_succ]
      refine wpAnyH_done (by kernel_rfl) ?_ _
      clear hHeld5
      have HIN := Lib.hid (⟨hB6, hown5, hgrow7, hown7, hblk7, hB5⟩ : _ ∧ _ ∧ _ ∧ _ ∧ _ ∧ _)
      clear hX7 hX8 hbx7 q7 f7 hX5 hX6 q5 q6 hB5 hB6 hs6 hown5 hgrow5 hblk5 hown7 hgrow7 hblk7 hBe hXd q1
      obtain ⟨ow1, ho1, ho2⟩ := tag_new wd (fun k => if k < w.heap.size then ow k else 0) 0
      obtain ⟨hB6, hown5, hgrow7, hown7, hblk7, hB5⟩ := HIN.out
      have hbw := B4.out.size
      have hag0 : Agr w ow ow1 := fun k hk => by rw [ho1 k (by omega)]; exact if_pos hk
      have R6 : RefT (w5.alloc (.cells #[.int .i64 r.kind, .int .i64 r.cost, .slice A5 r.path.length c5] 25)) ow1 t bs most L A c := (((AX.out.retag hag0).call B4.out).call hB6)
      have hP : PathAt (w5.alloc (.cells #[.int .i64 r.kind, .int .i64 r.cost, .slice A5 r.path.length c5] 25)) ow1 ((r, (A5, c5)) : RtZ) := (PathAt.fresh (w0 := wd) (z := ((r, (A5, c5)) : RtZ)) (.inl hown5) ho2).call ((Below.refl _ _).alloc (Nat.le_refl _) _)
      obtain ⟨ow', h1, h2, h3⟩ := R6.add HT.out hP HOK.out rfl hgrow7 hown7 hblk7
      have HR := Lib.hid h2
      have hs6 := hB6.size
      have HF : Hid (RAddPost w ow t bs most L r (.returned (.tuple #[.int .i64 (L.length : Int), .int .i64 0])) (w7.setCell ⟨bs, 1, none⟩ (.slice A7 (L.length + 1) c7))) := Lib.hid ⟨L ++ [((r, (A5, c5)) : RtZ)], A7, c7, ow', by rw [HNN.out.1, HNN.out.2.1], by rw [HNN.out.2.2, List.map_append]; rfl, fun k hk => (h1 k (by omega)).trans (hag0 k hk), h2, ((Chg.of_below B4.out).then (Chg.of_below hB6)).trans h3 hag0⟩
      clear h1 h2 h3 hP R6 hag0 ho1 ho2 hB6 hown5 hgrow7 hown7 hblk7 hB5
      generalize w7.setCell ⟨bs, 1, none⟩ (.slice A7 (L.length + 1) c7) = w8 at *
      obtain ⟨g0, g1⟩ := HR.out.all
      rw [List.length_append] at g1
      have hw1 : IntKind.i64.wrap ((L.length : Int) + 1 - 1) = (L.length : Int) := by rw [IntWalk.i64_in _ (by omega)]; omega
      have hw2 : IntKind.i64.wrap (L.length : Int) = (L.length : Int) := IntWalk.i64_in _ (by omega)
      go_wp2
      exact bodyPost_ret (v := .tuple #[.int .i64 (L.length : Int), .int .i64 0]) (by simp [results, Tryd.results14, go_sem]) rfl HF.out
end Go.Proofs.YtjdnkbpclhldfaaDoor

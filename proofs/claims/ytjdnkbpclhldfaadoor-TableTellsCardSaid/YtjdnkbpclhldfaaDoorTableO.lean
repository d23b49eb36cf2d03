/- The walks of package table. -/
import Derived.Test.YtjdnkbpclhldfaaDoorTableW
import Derived.Test.YtjdnkbpclhldfaaDoorTab
import Derived.StringKeys
namespace Go.Proofs.YtjdnkbpclhldfaaDoor
set_option linter.unusedSimpArgs false
set_option linter.unusedVariables false
open Go.RowKit
open Go.Maps (Keyed)

section
variable {P : Program} {w : World} {b : Nat} {k : TypeId} {m : List (Value × Value)} {ops : Array Oper} {o : Oper} {a : Act} {K : Act → World → Prop} {Q : Exit → Act → World → Prop} {E : Prop}
/-- A store into a map, at a step of a region that draws its order; a look-up likewise. -/
theorem step_mapput (hg : o.guard = none) (mo x v : Operand) (t : TypeId) (hop : o.op = Op.mapUpdate t mo x v) (e : TypeId) (Kd : Keyed P k) (ht : P.underlying t = some (.map k e)) (hm : a.eval mo = .map (some b)) (h : MapAt w P b k m)
    (key val : Value) (kl : Lit) (hx : a.eval x = key) (hv : a.eval v = val) (hkey : keyOf P k key = some kl)
    (hK : ∀ w' m', Put m key val m' → MapAt w' P b k m' → w.grownBy w' (some b) → K (a.put o.dst undef) w') : if Region.wanted o (yielded ops a.tmps) = true then Oper.wp P o a w K Q else E := by
  have hw : Region.wanted o (yielded ops a.tmps) = true := by simp [Region.wanted, hg]
  rw [if_pos hw]
  obtain ⟨w', m', hrun, r1, r2, r3⟩ := h.update (val := val) Kd ht hkey
  unfold Oper.wp
  simp [execOp, hop, hm, hx, hv, hrun, Result.andThen]
  exact hK _ _ r1 r2 r3
theorem step_maplook (hg : o.guard = none) (mo x : Operand) (t : TypeId) (hop : o.op = Op.lookup t mo x true) (e : TypeId) (Kd : Keyed P k) (ht : P.underlying t = some (.map k e)) (hm : a.eval mo = .map (some b)) (h : MapAt w P b k m)
    (z : Value) (hz : (zeroValue e).run P w = .ok z w) (key : Value) (kl : Lit) (hx : a.eval x = key) (hkey : keyOf P k key = some kl)
    (hK : ∀ v ok, Look m key z v ok → K (a.put o.dst (.tuple #[v, .bool ok])) w) : if Region.wanted o (yielded ops a.tmps) = true then Oper.wp P o a w K Q else E := by
  have hw : Region.wanted o (yielded ops a.tmps) = true := by simp [Region.wanted, hg]
  rw [if_pos hw]
  obtain ⟨v, ok, hrun, r1⟩ := h.look Kd ht hz hkey true
  unfold Oper.wp
  simp [execOp, hop, hm, hx, hrun, Result.andThen]
  exact hK _ _ r1
end
theorem Tryd.keyStr : Keyed Tryd.prog 9 := Go.Maps.string_keyed Tryd.underlying9

set_option maxRecDepth 100000 in
set_option maxHeartbeats 2000000 in
theorem own8_any (r : Rt) (A : Option Addr) (c : Nat) (w : World) (h : RtR w w.heap.size r A c) (hl : r.path.length ≤ 1000000) :
    Calls Tryd.prog 27 #[rtV r A c] w (OrPost r w) := by
  have HT : Hid (TwoW w ((w.alloc (.cells #[.int .i64 r.kind, .int .i64 r.cost, .slice A r.path.length c] 25)).alloc (.cells #[.int .i64 0, .int .i64 0, .slice none 0 0] 25)) r rtNone A none c 0) := Lib.hid (TwoW.begin (b := rtNone) (A' := none) (c' := 0))
  have HR := Lib.hid (show Rd ((w.alloc (.cells #[.int .i64 r.kind, .int .i64 r.cost, .slice A r.path.length c] 25)).alloc (.cells #[.int .i64 0, .int .i64 0, .slice none 0 0] 25)) w.heap.size 1 A r.path.length (ints r.path) from h.1.below HT.out.below (Nat.le_refl _))
  clear h
  unfold rtV
  go_enter Tryd.func27, Tryd.ntmps27
  go_wp2_with fail
  refine (clone_any r.path A c _ _ HR.out hl).mono ?_
  rintro e w2 ⟨A2, c2, rfl, ho2, -, hb2⟩
  have T2 := Lib.hid (HT.out.call hb2)
  have O2 := Lib.hid ho2
  have hs2 := T2.out.size
  obtain ⟨q0, q1, q2⟩ := results_best T2.out.a
  obtain ⟨r0, r1, r2⟩ := results_best (r := rtNone) T2.out.b
  have qf2 := frozen_of_row w2 w.heap.size 2 _ _ T2.out.a
  have rf0 := frozen_of_row w2 (w.heap.size + 1) 0 _ _ T2.out.b
  have rf1 := frozen_of_row w2 (w.heap.size + 1) 1 _ _ T2.out.b
  have rf2 := frozen_of_row w2 (w.heap.size + 1) 2 _ _ T2.out.b
  have HF : Hid (OrPost r w (.returned (.agg #[.int .i64 r.kind, .int .i64 r.cost, .slice A2 r.path.length c2])) ((((w2.setCell ⟨w.heap.size, 2, none⟩ (.slice A2 r.path.length c2)).setCell ⟨w.heap.size + 1, 0, none⟩ (.int .i64 r.kind)).setCell ⟨w.heap.size + 1, 1, none⟩ (.int .i64 r.cost)).setCell ⟨w.heap.size + 1, 2, none⟩ (.slice A2 r.path.length c2))) := Lib.hid (by
    refine ⟨A2, c2, rfl, .inl ?_, (((T2.out.below.setCell (by simp) _).setCell (by simp) _).setCell (by simp) _).setCell (by simp) _⟩
    have h0 := O2.out
    simp only [World.size_alloc] at h0
    refine Own.more ?_ (show w.heap.size ≤ w.heap.size + 1 + 1 by omega)
    exact (((h0.setCell_far (p := ⟨w.heap.size, 2, none⟩) (fun g hg => by have := h0.from_ g hg; show g ≠ w.heap.size; omega) _).setCell_far (p := ⟨w.heap.size + 1, 0, none⟩) (fun g hg => by have := h0.from_ g hg; show g ≠ w.heap.size + 1; omega) _).setCell_far (p := ⟨w.heap.size + 1, 1, none⟩) (fun g hg => by have := h0.from_ g hg; show g ≠ w.heap.size + 1; omega) _).setCell_far (p := ⟨w.heap.size + 1, 2, none⟩) (fun g hg => by have := h0.from_ g hg; show g ≠ w.heap.size + 1; omega) _)
  clear ho2 hb2
  go_wp2
  exact bodyPost_ret (v := .agg #[.int .i64 r.kind, .int .i64 r.cost, .slice A2 r.path.length c2]) (by simp [results, Tryd.results27, go_sem, r0, r1, r2]) rfl HF.out

theorem size8_any {w : World} {ow : Nat → Nat} {t bt bm : Nat} {most : Int} {L : List RtZ} {A : Option Addr} {c : Nat} (a : TabT w ow t bt bm most L A c) :
    Calls Tryd.prog 15 #[.pointer (some ⟨bt, 0, none⟩)] w fun e w' => e = .returned (.int .i64 (L.length : Int)) ∧ Below w.heap.size w w' := by
  obtain ⟨q0, q1, q2⟩ := a.all
  clear a
  go_enter Tryd.func15, Tryd.ntmps15
  go_wp2
  go_ret
  exact ⟨rfl, Below.refl _ _⟩

/-- A table, and a route's box in front of it. -/
theorem TabT.boxed {w : World} {ow : Nat → Nat} {t bt bm : Nat} {most : Int} {L : List RtZ} {A : Option Addr} {c : Nat} (a : TabT w ow t bt bm most L A c) (o : Obj) : TabT (w.alloc o) ow t bt bm most L A c := a.call ((Below.refl _ _).alloc (Nat.le_refl _) o)
def PutPost (w : World) (ow : Nat → Nat) (t bt bm : Nat) (most : Int) (L : List RtZ) (r : Rt) (e : Ending) (w' : World) : Prop :=
  e = .returned (.int .i64 (L.length : Int)) ∧ ∃ (z : RtZ) (A2 : Option Addr) (c2 : Nat) (ow' : Nat → Nat), z.1 = r ∧ Agr w ow ow' ∧ TabT w' ow' t bt bm most (L ++ [z]) A2 c2 ∧ Chg ow t w w'
attribute [local go_sem ↓] Go.wp_at_zero Go.wp_at_succ
set_option maxRecDepth 100000 in
set_option maxHeartbeats 4000000 in
theorem put8_any (r : Rt) (Ar : Option Addr) (cr : Nat) {w : World} {ow : Nat → Nat} {t bt bm : Nat} {most : Int} {L : List RtZ} {A : Option Addr} {c : Nat} (a : TabT w ow t bt bm most L A c) (ht : t ≠ 0) (hr : RtT w ow t r Ar cr) (hok : RtOk r) (hnew : r ∉ L.map (·.1)) (hT : ∀ w', Chg ow t w w' → Tab w') (hL : L.length ≤ 1000) :
    Calls Tryd.prog 22 #[.pointer (some ⟨bt, 0, none⟩), rtV r Ar cr] w (PutPost w ow t bt bm most L r) := by
  have AX := Lib.hid a
  have AB := Lib.hid (a.boxed (.cells #[.int .i64 r.kind, .int .i64 r.cost, .slice Ar r.path.length cr] 25))
  have B0 := Lib.hid ((Below.refl w.heap.size w).alloc (Nat.le_refl _) (.cells #[.int .i64 r.kind, .int .i64 r.cost, .slice Ar r.path.length cr] 25))
  have BX := Lib.hid (heap_alloc_new w (.cells #[.int .i64 r.kind, .int .i64 r.cost, .slice Ar r.path.length cr] 25))
  have RX := Lib.hid (hr.call B0.out)
  have HT := Lib.hid hT
  have HOK := Lib.hid hok
  have HNEW := Lib.hid hnew
  have HP := Lib.hid hok.prints
  obtain ⟨i3, hi3, hz3, hs3, hb3⟩ := info_parts Tryd.info_rt
  have hbw := lt_heap a.box
  have hbmw := a.map.lt
  have HNA : Hid (some w.heap.size ≠ blk A) := Lib.hid (fun e => by
    by_cases hc : c = 0
    · rw [a.rows.za hc] at e; simp [blk] at e
    · have := a.rows.row.ltb (by omega) _ e.symm; omega)
  clear a hr hok hnew hT
  unfold rtV
  go_enter Tryd.func22, Tryd.ntmps22
  go_upto_region 1 with fail
  generalize (w.alloc (.cells #[.int .i64 r.kind, .int .i64 r.cost, .slice Ar r.path.length cr] 25)) = w1 at *
  obtain ⟨g0, g1, g2⟩ := AB.out.all
  go_upto_region 2 with fail
  clear g0 g1 g2
  have HC : Hid (∀ wy : World, wy.heap[w.heap.size]? = some (.cells #[.int .i64 r.kind, .int .i64 r.cost, .slice Ar r.path.length cr] 25 (0, 0)) → wy.cell? ⟨w.heap.size, 0, none⟩ = some (.int .i64 r.kind) ∧ wy.cell? ⟨w.heap.size, 1, none⟩ = some (.int .i64 r.cost) ∧ wy.cell? ⟨w.heap.size, 2, none⟩ = some (.slice Ar r.path.length cr)) := Lib.hid (fun wy b => results_best b)
  have HG : Hid (∀ wy, Below w1.heap.size w1 wy → wy.cell? ⟨bt, 1, none⟩ = some (.slice A L.length c)) := Lib.hid (fun wy hb => (AB.out.call hb).all.2.1)
  have CO : Hid (∀ wy, Below w1.heap.size w1 wy → Calls Tryd.prog 27 #[.agg #[.int .i64 r.kind, .int .i64 r.cost, .slice Ar r.path.length cr]] wy fun e w' => ∃ A5 c5, e = .returned (.agg #[.int .i64 r.kind, .int .i64 r.cost, .slice A5 r.path.length c5]) ∧ OwnOr w' w.heap.size A5 c5 r.path ∧ Below w1.heap.size w1 w') := Lib.hid (fun wy hb =>
    (own8_any r Ar cr wy (RX.out.call hb).1 HP.out.2.2).mono fun e w' ⟨A5, c5, h1, h2, h3⟩ => ⟨A5, c5, h1, h2.more (Nat.le_trans B0.out.size hb.size), since_trans hb h3⟩)
  have hBd : Below w1.heap.size w1 w1.drew := below_drew (Below.refl _ _)
  have hXd : w1.drew.heap[w.heap.size]? = some (.cells #[.int .i64 r.kind, .int .i64 r.cost, .slice Ar r.path.length cr] 25 (0, 0)) := BX.out
  have q1 := HG.out _ hBd
  have hnl : w.heap.size < w1.heap.size := lt_heap BX.out
  refine wp_region_held_drew (S := (fun wy => wy.cell? ⟨w.heap.size, 0, none⟩ = some (.int .i64 r.kind) ∧ wy.cell? ⟨w.heap.size, 1, none⟩ = some (.int .i64 r.cost) ∧ wy.cell? ⟨w.heap.size, 2, none⟩ = some (.slice Ar r.path.length cr))) (by kernel_rfl) (HC.out _ hXd) (fun hHeld0 => ?_)
  refine take_list (i := 0) (v := ?_) rfl (by kernel_rfl) (by kernel_rfl) (by kernel_rfl) (fun _ _ _ h => h) (Or.inl ⟨by rfl, ?_⟩) (by assumption) ?_
  rotate_left
  · (intro w hSw; (try dsimp only at hSw); go_simp; try (with_reducible rfl))
  try simp only [Act.put, List.setIfInBounds_toArray, List.set_cons_zero, List.set_cons_succ]
  refine take_list (i := 1) (v := ?_) rfl (by kernel_rfl) (by kernel_rfl) (by kernel_rfl) (fun _ _ _ h => h) (Or.inl ⟨by rfl, ?_⟩) (by assumption) ?_
  rotate_left
  · (intro w hSw; (try dsimp only at hSw); go_simp; try (with_reducible rfl))
  try simp only [Act.put, List.setIfInBounds_toArray, List.set_cons_zero, List.set_cons_succ]
  refine take_list (i := 2) (v := ?_) rfl (by kernel_rfl) (by kernel_rfl) (by kernel_rfl) (fun _ _ _ h => h) (Or.inl ⟨by rfl, ?_⟩) (by assumption) ?_
  rotate_left
  · (intro w hSw; (try dsimp only at hSw); go_simp; try (with_reducible rfl))
  try simp only [Act.put, List.setIfInBounds_toArray, List.set_cons_zero, List.set_cons_succ]
  refine take_list (i := 3) (v := ?_) rfl (by kernel_rfl) (by kernel_rfl) (by kernel_rfl) (fun _ _ _ h => h) (Or.inl ⟨by rfl, ?_⟩) (by assumption) ?_
  rotate_left
  · (intro w hSw; (try dsimp only at hSw); go_simp; try (with_reducible rfl))
  try simp only [Act.put, List.setIfInBounds_toArray, List.set_cons_zero, List.set_cons_succ]
  refine take_list (i := 5) (v := ?_) rfl (by kernel_rfl) (by kernel_rfl) (by kernel_rfl) (fun _ _ _ h => h) (Or.inl ⟨by rfl, ?_⟩) (by assumption) ?_
  rotate_left
  · (intro w hSw; (try dsimp only at hSw); go_simp; try (with_reducible rfl))
  try simp only [Act.put, List.setIfInBounds_toArray, List.set_cons_zero, List.set_cons_succ]
  refine wpAnyH_ready (rs := [4, 6]) (by kernel_rfl) (by simp) ?_
  refine cons_list rfl (fun K hK => ?_) (cons_list rfl (fun K hK => ?_) AllReadyH.nil)
  ·
    go_simp
    refine hK.out _ _ (HC.out _ (by assumption)) (fun hHeld1 => ?_)
    clear hK K hHeld0
    try simp only [Act.put, List.setIfInBounds_toArray, List.set_cons_zero, List.set_cons_succ]
    refine wpAnyH_ready (rs := [6]) (by kernel_rfl) (by simp) ?_
    refine cons_list rfl (fun K hK => ?_) AllReadyH.nil
    go_simp
    (go_at_call 27; refine (CO.out _ (by assumption)).mono ?_; rintro e w2 ⟨A5, c5, rfl, ho5, hB2⟩; have hX2 := (hB2.block _ hnl).trans BX.out; have hB3 : Below w1.heap.size w1 (w2.alloc (.cells #[.int .i64 r.kind, .int .i64 r.cost, .slice A5 r.path.length c5] 25)) := hB2.alloc hB2.size _; have hX3 := (hB3.block _ hnl).trans BX.out; have q2 := HG.out _ hB2; have q3 := HG.out _ hB3)
    refine hK.out _ _ (HC.out _ (by assumption)) (fun hHeld2 => ?_)
    clear hK K hHeld1
    try simp only [Act.put, List.setIfInBounds_toArray, List.set_cons_zero, List.set_cons_succ]
    refine wpAnyH_ready (rs := [7]) (by kernel_rfl) (by simp) ?_
    refine cons_list rfl (fun K hK => ?_) AllReadyH.nil
    go_simp
    refine hK.out _ _ (HC.out _ (by assumption)) (fun hHeld3 => ?_)
    clear hK K hHeld2
    try simp only [Act.put, List.setIfInBounds_toArray, List.set_cons_zero, List.set_cons_succ]
    refine wpAnyH_ready (rs := [8]) (by kernel_rfl) (by simp) ?_
    refine cons_list rfl (fun K hK => ?_) AllReadyH.nil
    (refine step_app _ (by rfl) _ _ 30 (by rfl) 0 25 i3 _ 3 40 Tryd.underlying30 hi3 hz3 hs3 hb3 rfl (by decide) _ _ _ (L.flatMap rtCells) (by rfl) (AB.out.call hB3).rows.row _ 1 _ (rtCells ((r, (A5, c5)) : RtZ)) (by rfl) (Rd.new (by simp) rfl) (by intro x hx; simp [rtCells] at hx; rcases hx with rfl | rfl | rfl <;> rfl) (by unfold maxLen; omega) (by omega) (Nat.zero_le _) ?_; intro A2 c2 w5 hown2 hgrow2 hblk2 _; have hs3' := hB3.size; have hX5 := (hgrow2.block w.heap.size (by omega) HNA.out).trans hX3; have hbx5 := (hgrow2.block bt (by omega) (AB.out.call hB3).bt_A).trans (AB.out.call hB3).box; have q5 := cell_of_row w5 bt 1 _ _ _ hbx5; have f5 := frozen_of_row w5 bt 1 _ _ hbx5; have hX6 : (w5.setCell ⟨bt, 1, none⟩ (.slice A2 (L.length + 1) c2)).heap[w.heap.size]? = some (.cells #[.int .i64 r.kind, .int .i64 r.cost, .slice Ar r.path.length cr] 25 (0, 0)) := (Below.heap_setCell _ _ _ _ (show w.heap.size ≠ bt by omega)).trans hX5)
    refine hK.out _ _ (HC.out _ (by assumption)) (fun hHeld4 => ?_)
    clear hK K hHeld3
    try simp only [Act.put, List.setIfInBounds_toArray, List.set_cons_zero, List.set_cons_succ]
    refine take_list (i := 9) (v := ?_) rfl (by kernel_rfl) (by kernel_rfl) (by kernel_rfl) (fun _ _ _ h => h) (Or.inl ⟨by rfl, ?_⟩) (by assumption) ?_
    rotate_left
    · (intro w hSw; (try dsimp only at hSw); go_simp; try (with_reducible rfl))
    try simp only [Act.put, List.setIfInBounds_toArray, List.set_cons_zero, List.set_cons_succ]
    refine take_list (i := 10) (v := ?_) rfl (by kernel_rfl) (by kernel_rfl) (by kernel_rfl) (fun _ _ _ h => h) (Or.inl ⟨by rfl, ?_⟩) (by assumption) ?_
    rotate_left
    · (intro w hSw; (try dsimp only at hSw); go_simp; try (with_reducible rfl))
    try simp only [Act.put, List.setIfInBounds_toArray, List.set_cons_zero, List.set_cons_succ]
    refine wpAnyH_ready (rs := [11]) (by kernel_rfl) (by simp) ?_
    refine cons_list rfl (fun K hK => ?_) AllReadyH.nil
    go_simp
    refine hK.out _ _ (HC.out _ (by assumption)) (fun hHeld5 => ?_)
    clear hK K hHeld4
    try simp only [Act.put, List.setIfInBounds_toArray, List.set_cons_zero, List.set_cons_succ]
    refine wpAnyH_done (by kernel_rfl) ?_ _
    clear hHeld5
    obtain ⟨w6, hw6⟩ : ∃ x, x = w5.setCell ⟨bt, 1, none⟩ (.slice A2 (L.length + 1) c2) := ⟨_, rfl⟩
    have HW6 := Lib.hid hw6
    have hC6 : Chg ow t w1 w6 := by rw [hw6]; exact ((Chg.of_below hB3).then (Chg.grown hgrow2 AB.out.rows.ta)).then (Chg.setCell (q := ⟨bt, 1, none⟩) AB.out.tb _)
    have hb6 : w6.heap[bt]? = some (.cells #[.int .i64 most, .slice A2 (L.length + 1) c2, .map (some bm)] 49 (0, 0)) := by rw [hw6]; exact heap_setCell_same w5 bt 1 _ _ (.slice A2 (L.length + 1) c2) hbx5
    have HM6 : Hid (MapAt w6 Tryd.prog bm 9 (ents (L.map (·.1)))) := Lib.hid (by rw [hw6]; exact ((AB.out.call hB3).map.grown hgrow2 (AB.out.call hB3).bm_A).setCell (p := ⟨bt, 1, none⟩) AB.out.bm_bt _)
    rw [← hw6] at hX6 ⊢
    have R6 := Lib.hid (RX.out.chg hC6)
    have T6 := Lib.hid (HT.out _ ((Chg.of_below B0.out).then hC6))
    have HIN := Lib.hid (⟨hB3, ho5, hown2, hgrow2, hblk2⟩ : _ ∧ _ ∧ _ ∧ _ ∧ _)
    have HX6 := Lib.hid hX6
    have HB6 := Lib.hid hb6
    have HTS := Lib.hid (txt_size HOK.out)
    clear hw6 hB2 hX2 hX3 q1 q2 q3 hown2 hgrow2 hblk2 hX5 hbx5 q5 f5 hB3 ho5 hBd hXd hC6
    go_upto_region 3 with fail
    have HC3 : Hid (∀ wy : World, wy.heap[w.heap.size]? = some (.cells #[.int .i64 r.kind, .int .i64 r.cost, .slice Ar r.path.length cr] 25 (0, 0)) → wy.heap[bt]? = some (.cells #[.int .i64 most, .slice A2 (L.length + 1) c2, .map (some bm)] 49 (0, 0)) → wy.cell? ⟨bt, 2, none⟩ = some (.map (some bm)) ∧ wy.cell? ⟨w.heap.size, 0, none⟩ = some (.int .i64 r.kind) ∧ wy.cell? ⟨w.heap.size, 1, none⟩ = some (.int .i64 r.cost) ∧ wy.cell? ⟨w.heap.size, 2, none⟩ = some (.slice Ar r.path.length cr)) := Lib.hid (fun wy b b' => ⟨cell_of_row wy _ 2 _ _ _ b', results_best b⟩)
    have CP : Hid (∀ wy, Below w6.heap.size w6 wy → Calls Tryd.prog 26 #[.agg #[.int .i64 r.kind, .int .i64 r.cost, .slice Ar r.path.length cr]] wy fun e w' => e = .returned (.string (txt r)) ∧ Below w6.heap.size w6 w') := Lib.hid (fun wy hb => (print_any r Ar cr wy (R6.out.call hb).1 (T6.out.call hb) HP.out.1 HP.out.2.1 HP.out.2.2).mono fun e w' ⟨s, h1, h2, h3⟩ => ⟨by rw [h1, txt_of h2], since_trans hb h3⟩)
    have hBd6 : Below w6.heap.size w6 w6.drew := below_drew (Below.refl _ _)
    have hXd6 : w6.drew.heap[w.heap.size]? = some (.cells #[.int .i64 r.kind, .int .i64 r.cost, .slice Ar r.path.length cr] 25 (0, 0)) := HX6.out
    have hbd6 : w6.drew.heap[bt]? = some (.cells #[.int .i64 most, .slice A2 (L.length + 1) c2, .map (some bm)] 49 (0, 0)) := HB6.out
    clear hX6 hb6
    refine wp_region_held_drew (S := (fun wy => wy.cell? ⟨bt, 2, none⟩ = some (.map (some bm)) ∧ wy.cell? ⟨w.heap.size, 0, none⟩ = some (.int .i64 r.kind) ∧ wy.cell? ⟨w.heap.size, 1, none⟩ = some (.int .i64 r.cost) ∧ wy.cell? ⟨w.heap.size, 2, none⟩ = some (.slice Ar r.path.length cr))) (by kernel_rfl) (HC3.out _ hXd6 hbd6) (fun hHeld0 => ?_)
    refine take_list (i := 0) (v := ?_) rfl (by kernel_rfl) (by kernel_rfl) (by kernel_rfl) (fun _ _ _ h => h) (Or.inl ⟨by rfl, ?_⟩) (by assumption) ?_
    rotate_left
    · (intro w hSw; (try dsimp only at hSw); go_simp; try (with_reducible rfl))
    try simp only [Act.put, List.setIfInBounds_toArray, List.set_cons_zero, List.set_cons_succ]
    refine take_list (i := 1) (v := ?_) rfl (by kernel_rfl) (by kernel_rfl) (by kernel_rfl) (fun _ _ _ h => h) (Or.inl ⟨by rfl, ?_⟩) (by assumption) ?_
    rotate_left
    · (intro w hSw; (try dsimp only at hSw); go_simp; try (with_reducible rfl))
    try simp only [Act.put, List.setIfInBounds_toArray, List.set_cons_zero, List.set_cons_succ]
    refine take_list (i := 2) (v := ?_) rfl (by kernel_rfl) (by kernel_rfl) (by kernel_rfl) (fun _ _ _ h => h) (Or.inl ⟨by rfl, ?_⟩) (by assumption) ?_
    rotate_left
    · (intro w hSw; (try dsimp only at hSw); go_simp; try (with_reducible rfl))
    try simp only [Act.put, List.setIfInBounds_toArray, List.set_cons_zero, List.set_cons_succ]
    refine take_list (i := 3) (v := ?_) rfl (by kernel_rfl) (by kernel_rfl) (by kernel_rfl) (fun _ _ _ h => h) (Or.inl ⟨by rfl, ?_⟩) (by assumption) ?_
    rotate_left
    · (intro w hSw; (try dsimp only at hSw); go_simp; try (with_reducible rfl))
    try simp only [Act.put, List.setIfInBounds_toArray, List.set_cons_zero, List.set_cons_succ]
    refine take_list (i := 4) (v := ?_) rfl (by kernel_rfl) (by kernel_rfl) (by kernel_rfl) (fun _ _ _ h => h) (Or.inl ⟨by rfl, ?_⟩) (by assumption) ?_
    rotate_left
    · (intro w hSw; (try dsimp only at hSw); go_simp; try (with_reducible rfl))
    try simp only [Act.put, List.setIfInBounds_toArray, List.set_cons_zero, List.set_cons_succ]
    refine take_list (i := 6) (v := ?_) rfl (by kernel_rfl) (by kernel_rfl) (by kernel_rfl) (fun _ _ _ h => h) (Or.inl ⟨by rfl, ?_⟩) (by assumption) ?_
    rotate_left
    · (intro w hSw; (try dsimp only at hSw); go_simp; try (with_reducible rfl))
    try simp only [Act.put, List.setIfInBounds_toArray, List.set_cons_zero, List.set_cons_succ]
    refine wpAnyH_ready (rs := [5]) (by kernel_rfl) (by simp) ?_
    refine cons_list rfl (fun K hK => ?_) AllReadyH.nil
    go_simp
    (go_at_call 26; refine (CP.out _ hBd6).mono ?_; rintro e w7 ⟨rfl, hB7⟩; have hX7 := (hB7.block _ (lt_heap HX6.out)).trans HX6.out; have hb7 := (hB7.block _ (lt_heap HB6.out)).trans HB6.out)
    refine hK.out _ _ (HC3.out _ (by assumption) (by assumption)) (fun hHeld1 => ?_)
    clear hK K hHeld0
    try simp only [Act.put, List.setIfInBounds_toArray, List.set_cons_zero, List.set_cons_succ]
    refine wpAnyH_ready (rs := [7]) (by kernel_rfl) (by simp) ?_
    refine cons_list rfl (fun K hK => ?_) AllReadyH.nil
    (refine step_mapput (by rfl) _ _ _ _ (by rfl) 3 Tryd.keyStr Tryd.underlying47 (by rfl) (HM6.out.call hB7) (.string (txt r)) (.int .i64 (L.length : Int)) _ (by rfl) (by rfl) (Go.WideMaps.keyOf_string_mk Tryd.underlying9 HTS.out) ?_; intro w8 m' hput hm8 hg8; have hX8 := (hg8.block _ (lt_heap hX7) (fun e => by injection e with e; omega)).trans hX7; have hb8 := (hg8.block _ (lt_heap hb7) (fun e => AX.out.bm_bt (by injection e with e; exact e.symm))).trans hb7)
    refine hK.out _ _ (HC3.out _ (by assumption) (by assumption)) (fun hHeld2 => ?_)
    clear hK K hHeld1
    try simp only [Act.put, List.setIfInBounds_toArray, List.set_cons_zero, List.set_cons_succ]
    refine wpAnyH_done (by kernel_rfl) ?_ _
    clear hHeld2
    obtain ⟨i1, i2, i3', i4, i5⟩ := HIN.out
    have HF := Lib.hid (AX.out.put ht (since_trans B0.out i1) (z := ((r, (A5, c5)) : RtZ)) (i2.alloc _) HOK.out HNEW.out rfl i4 i3' i5 (by rw [← HW6.out]; exact hB7) hm8 hput hg8)
    clear i1 i2 i3' i4 i5 hm8 hput hg8 hB7 hX7 hb7 hX8 hb8 hBd6 hXd6 hbd6
    go_wp2
    go_ret
    obtain ⟨ow', hf1, hf2, hf3⟩ := HF.out
    exact ⟨rfl, _, A2, c2, ow', rfl, hf1, hf2, hf3⟩
  ·
    go_simp
    (go_at_call 27; refine (CO.out _ (by assumption)).mono ?_; rintro e w2 ⟨A5, c5, rfl, ho5, hB2⟩; have hX2 := (hB2.block _ hnl).trans BX.out; have hB3 : Below w1.heap.size w1 (w2.alloc (.cells #[.int .i64 r.kind, .int .i64 r.cost, .slice A5 r.path.length c5] 25)) := hB2.alloc hB2.size _; have hX3 := (hB3.block _ hnl).trans BX.out; have q2 := HG.out _ hB2; have q3 := HG.out _ hB3)
    refine hK.out _ _ (HC.out _ (by assumption)) (fun hHeld1 => ?_)
    clear hK K hHeld0
    try simp only [Act.put, List.setIfInBounds_toArray, List.set_cons_zero, List.set_cons_succ]
    refine wpAnyH_ready (rs := [4, 7]) (by kernel_rfl) (by simp) ?_
    refine cons_list rfl (fun K hK => ?_) (cons_list rfl (fun K hK => ?_) AllReadyH.nil)
    ·
      go_simp
      refine hK.out _ _ (HC.out _ (by assumption)) (fun hHeld2 => ?_)
      clear hK K hHeld1
      try simp only [Act.put, List.setIfInBounds_toArray, List.set_cons_zero, List.set_cons_succ]
      refine wpAnyH_ready (rs := [7]) (by kernel_rfl) (by simp) ?_
      refine cons_list rfl (fun K hK => ?_) AllReadyH.nil
      go_simp
      refine hK.out _ _ (HC.out _ (by assumption)) (fun hHeld3 => ?_)
      clear hK K hHeld2
      try simp only [Act.put, List.setIfInBounds_toArray, List.set_cons_zero, List.set_cons_succ]
      refine wpAnyH_ready (rs := [8]) (by kernel_rfl) (by simp) ?_
      refine cons_list rfl (fun K hK => ?_) AllReadyH.nil
      (refine step_app _ (by rfl) _ _ 30 (by rfl) 0 25 i3 _ 3 40 Tryd.underlying30 hi3 hz3 hs3 hb3 rfl (by decide) _ _ _ (L.flatMap rtCells) (by rfl) (AB.out.call hB3).rows.row _ 1 _ (rtCells ((r, (A5, c5)) : RtZ)) (by rfl) (Rd.new (by simp) rfl) (by intro x hx; simp [rtCells] at hx; rcases hx with rfl | rfl | rfl <;> rfl) (by unfold maxLen; omega) (by omega) (Nat.zero_le _) ?_; intro A2 c2 w5 hown2 hgrow2 hblk2 _; have hs3' := hB3.size; have hX5 := (hgrow2.block w.heap.size (by omega) HNA.out).trans hX3; have hbx5 := (hgrow2.block bt (by omega) (AB.out.call hB3).bt_A).trans (AB.out.call hB3).box; have q5 := cell_of_row w5 bt 1 _ _ _ hbx5; have f5 := frozen_of_row w5 bt 1 _ _ hbx5; have hX6 : (w5.setCell ⟨bt, 1, none⟩ (.slice A2 (L.length + 1) c2)).heap[w.heap.size]? = some (.cells #[.int .i64 r.kind, .int .i64 r.cost, .slice Ar r.path.length cr] 25 (0, 0)) := (Below.heap_setCell _ _ _ _ (show w.heap.size ≠ bt by omega)).trans hX5)
      refine hK.out _ _ (HC.out _ (by assumption)) (fun hHeld4 => ?_)
      clear hK K hHeld3
      try simp only [Act.put, List.setIfInBounds_toArray, List.set_cons_zero, List.set_cons_succ]
      refine take_list (i := 9) (v := ?_) rfl (by kernel_rfl) (by kernel_rfl) (by kernel_rfl) (fun _ _ _ h => h) (Or.inl ⟨by rfl, ?_⟩) (by assumption) ?_
      rotate_left
      · (intro w hSw; (try dsimp only at hSw); go_simp; try (with_reducible rfl))
      try simp only [Act.put, List.setIfInBounds_toArray, List.set_cons_zero, List.set_cons_succ]
      refine take_list (i := 10) (v := ?_) rfl (by kernel_rfl) (by kernel_rfl) (by kernel_rfl) (fun _ _ _ h => h) (Or.inl ⟨by rfl, ?_⟩) (by assumption) ?_
      rotate_left
      · (intro w hSw; (try dsimp only at hSw); go_simp; try (with_reducible rfl))
      try simp only [Act.put, List.setIfInBounds_toArray, List.set_cons_zero, List.set_cons_succ]
      refine wpAnyH_ready (rs := [11]) (by kernel_rfl) (by simp) ?_
      refine cons_list rfl (fun K hK => ?_) AllReadyH.nil
      go_simp
      refine hK.out _ _ (HC.out _ (by assumption)) (fun hHeld5 => ?_)
      clear hK K hHeld4
      try simp only [Act.put, List.setIfInBounds_toArray, List.set_cons_zero, List.set_cons_succ]
      refine wpAnyH_done (by kernel_rfl) ?_ _
      clear hHeld5
      obtain ⟨w6, hw6⟩ : ∃ x, x = w5.setCell ⟨bt, 1, none⟩ (.slice A2 (L.length + 1) c2) := ⟨_, rfl⟩
      have HW6 := Lib.hid hw6
      have hC6 : Chg ow t w1 w6 := by rw [hw6]; exact ((Chg.of_below hB3).then (Chg.grown hgrow2 AB.out.rows.ta)).then (Chg.setCell (q := ⟨bt, 1, none⟩) AB.out.tb _)
      have hb6 : w6.heap[bt]? = some (.cells #[.int .i64 most, .slice A2 (L.length + 1) c2, .map (some bm)] 49 (0, 0)) := by rw [hw6]; exact heap_setCell_same w5 bt 1 _ _ (.slice A2 (L.length + 1) c2) hbx5
      have HM6 : Hid (MapAt w6 Tryd.prog bm 9 (ents (L.map (·.1)))) := Lib.hid (by rw [hw6]; exact ((AB.out.call hB3).map.grown hgrow2 (AB.out.call hB3).bm_A).setCell (p := ⟨bt, 1, none⟩) AB.out.bm_bt _)
      rw [← hw6] at hX6 ⊢
      have R6 := Lib.hid (RX.out.chg hC6)
      have T6 := Lib.hid (HT.out _ ((Chg.of_below B0.out).then hC6))
      have HIN := Lib.hid (⟨hB3, ho5, hown2, hgrow2, hblk2⟩ : _ ∧ _ ∧ _ ∧ _ ∧ _)
      have HX6 := Lib.hid hX6
      have HB6 := Lib.hid hb6
      have HTS := Lib.hid (txt_size HOK.out)
      clear hw6 hB2 hX2 hX3 q1 q2 q3 hown2 hgrow2 hblk2 hX5 hbx5 q5 f5 hB3 ho5 hBd hXd hC6
      go_upto_region 3 with fail
      have HC3 : Hid (∀ wy : World, wy.heap[w.heap.size]? = some (.cells #[.int .i64 r.kind, .int .i64 r.cost, .slice Ar r.path.length cr] 25 (0, 0)) → wy.heap[bt]? = some (.cells #[.int .i64 most, .slice A2 (L.length + 1) c2, .map (some bm)] 49 (0, 0)) → wy.cell? ⟨bt, 2, none⟩ = some (.map (some bm)) ∧ wy.cell? ⟨w.heap.size, 0, none⟩ = some (.int .i64 r.kind) ∧ wy.cell? ⟨w.heap.size, 1, none⟩ = some (.int .i64 r.cost) ∧ wy.cell? ⟨w.heap.size, 2, none⟩ = some (.slice Ar r.path.length cr)) := Lib.hid (fun wy b b' => ⟨cell_of_row wy _ 2 _ _ _ b', results_best b⟩)
      have CP : Hid (∀ wy, Below w6.heap.size w6 wy → Calls Tryd.prog 26 #[.agg #[.int .i64 r.kind, .int .i64 r.cost, .slice Ar r.path.length cr]] wy fun e w' => e = .returned (.string (txt r)) ∧ Below w6.heap.size w6 w') := Lib.hid (fun wy hb => (print_any r Ar cr wy (R6.out.call hb).1 (T6.out.call hb) HP.out.1 HP.out.2.1 HP.out.2.2).mono fun e w' ⟨s, h1, h2, h3⟩ => ⟨by rw [h1, txt_of h2], since_trans hb h3⟩)
      have hBd6 : Below w6.heap.size w6 w6.drew := below_drew (Below.refl _ _)
      have hXd6 : w6.drew.heap[w.heap.size]? = some (.cells #[.int .i64 r.kind, .int .i64 r.cost, .slice Ar r.path.length cr] 25 (0, 0)) := HX6.out
      have hbd6 : w6.drew.heap[bt]? = some (.cells #[.int .i64 most, .slice A2 (L.length + 1) c2, .map (some bm)] 49 (0, 0)) := HB6.out
      clear hX6 hb6
      refine wp_region_held_drew (S := (fun wy => wy.cell? ⟨bt, 2, none⟩ = some (.map (some bm)) ∧ wy.cell? ⟨w.heap.size, 0, none⟩ = some (.int .i64 r.kind) ∧ wy.cell? ⟨w.heap.size, 1, none⟩ = some (.int .i64 r.cost) ∧ wy.cell? ⟨w.heap.size, 2, none⟩ = some (.slice Ar r.path.length cr))) (by kernel_rfl) (HC3.out _ hXd6 hbd6) (fun hHeld0 => ?_)
      refine take_list (i := 0) (v := ?_) rfl (by kernel_rfl) (by kernel_rfl) (by kernel_rfl) (fun _ _ _ h => h) (Or.inl ⟨by rfl, ?_⟩) (by assumption) ?_
      rotate_left
      · (intro w hSw; (try dsimp only at hSw); go_simp; try (with_reducible rfl))
      try simp only [Act.put, List.setIfInBounds_toArray, List.set_cons_zero, List.set_cons_succ]
      refine take_list (i := 1) (v := ?_) rfl (by kernel_rfl) (by kernel_rfl) (by kernel_rfl) (fun _ _ _ h => h) (Or.inl ⟨by rfl, ?_⟩) (by assumption) ?_
      rotate_left
      · (intro w hSw; (try dsimp only at hSw); go_simp; try (with_reducible rfl))
      try simp only [Act.put, List.setIfInBounds_toArray, List.set_cons_zero, List.set_cons_succ]
      refine take_list (i := 2) (v := ?_) rfl (by kernel_rfl) (by kernel_rfl) (by kernel_rfl) (fun _ _ _ h => h) (Or.inl ⟨by rfl, ?_⟩) (by assumption) ?_
      rotate_left
      · (intro w hSw; (try dsimp only at hSw); go_simp; try (with_reducible rfl))
      try simp only [Act.put, List.setIfInBounds_toArray, List.set_cons_zero, List.set_cons_succ]
      refine take_list (i := 3) (v := ?_) rfl (by kernel_rfl) (by kernel_rfl) (by kernel_rfl) (fun _ _ _ h => h) (Or.inl ⟨by rfl, ?_⟩) (by assumption) ?_
      rotate_left
      · (intro w hSw; (try dsimp only at hSw); go_simp; try (with_reducible rfl))
      try simp only [Act.put, List.setIfInBounds_toArray, List.set_cons_zero, List.set_cons_succ]
      refine take_list (i := 4) (v := ?_) rfl (by kernel_rfl) (by kernel_rfl) (by kernel_rfl) (fun _ _ _ h => h) (Or.inl ⟨by rfl, ?_⟩) (by assumption) ?_
      rotate_left
      · (intro w hSw; (try dsimp only at hSw); go_simp; try (with_reducible rfl))
      try simp only [Act.put, List.setIfInBounds_toArray, List.set_cons_zero, List.set_cons_succ]
      refine take_list (i := 6) (v := ?_) rfl (by kernel_rfl) (by kernel_rfl) (by kernel_rfl) (fun _ _ _ h => h) (Or.inl ⟨by rfl, ?_⟩) (by assumption) ?_
      rotate_left
      · (intro w hSw; (try dsimp only at hSw); go_simp; try (with_reducible rfl))
      try simp only [Act.put, List.setIfInBounds_toArray, List.set_cons_zero, List.set_cons_succ]
      refine wpAnyH_ready (rs := [5]) (by kernel_rfl) (by simp) ?_
      refine cons_list rfl (fun K hK => ?_) AllReadyH.nil
      go_simp
      (go_at_call 26; refine (CP.out _ hBd6).mono ?_; rintro e w7 ⟨rfl, hB7⟩; have hX7 := (hB7.block _ (lt_heap HX6.out)).trans HX6.out; have hb7 := (hB7.block _ (lt_heap HB6.out)).trans HB6.out)
      refine hK.out _ _ (HC3.out _ (by assumption) (by assumption)) (fun hHeld1 => ?_)
      clear hK K hHeld0
      try simp only [Act.put, List.setIfInBounds_toArray, List.set_cons_zero, List.set_cons_succ]
      refine wpAnyH_ready (rs := [7]) (by kernel_rfl) (by simp) ?_
      refine cons_list rfl (fun K hK => ?_) AllReadyH.nil
      (refine step_mapput (by rfl) _ _ _ _ (by rfl) 3 Tryd.keyStr Tryd.underlying47 (by rfl) (HM6.out.call hB7) (.string (txt r)) (.int .i64 (L.length : Int)) _ (by rfl) (by rfl) (Go.WideMaps.keyOf_string_mk Tryd.underlying9 HTS.out) ?_; intro w8 m' hput hm8 hg8; have hX8 := (hg8.block _ (lt_heap hX7) (fun e => by injection e with e; omega)).trans hX7; have hb8 := (hg8.block _ (lt_heap hb7) (fun e => AX.out.bm_bt (by injection e with e; exact e.symm))).trans hb7)
      refine hK.out _ _ (HC3.out _ (by assumption) (by assumption)) (fun hHeld2 => ?_)
      clear hK K hHeld1
      try simp only [Act.put, List.setIfInBounds_toArray, List.set_cons_zero, List.set_cons_succ]
      refine wpAnyH_done (by kernel_rfl) ?_ _
      clear hHeld2
      obtain ⟨i1, i2, i3', i4, i5⟩ := HIN.out
      have HF := Lib.hid (AX.out.put ht (since_trans B0.out i1) (z := ((r, (A5, c5)) : RtZ)) (i2.alloc _) HOK.out HNEW.out rfl i4 i3' i5 (by rw [← HW6.out]; exact hB7) hm8 hput hg8)
      clear i1 i2 i3' i4 i5 hm8 hput hg8 hB7 hX7 hb7 hX8 hb8 hBd6 hXd6 hbd6
      go_wp2
      go_ret
      obtain ⟨ow', hf1, hf2, hf3⟩ := HF.out
      exact ⟨rfl, _, A2, c2, ow', rfl, hf1, hf2, hf3⟩
    ·
      go_simp
      refine hK.out _ _ (HC.out _ (by assumption)) (fun hHeld2 => ?_)
      clear hK K hHeld1
      try simp only [Act.put, List.setIfInBounds_toArray, List.set_cons_zero, List.set_cons_succ]
      refine wpAnyH_ready (rs := [4]) (by kernel_rfl) (by simp) ?_
      refine cons_list rfl (fun K hK => ?_) AllReadyH.nil
      go_simp
      refine hK.out _ _ (HC.out _ (by assumption)) (fun hHeld3 => ?_)
      clear hK K hHeld2
      try simp only [Act.put, List.setIfInBounds_toArray, List.set_cons_zero, List.set_cons_succ]
      refine wpAnyH_ready (rs := [8]) (by kernel_rfl) (by simp) ?_
      refine cons_list rfl (fun K hK => ?_) AllReadyH.nil
      (refine step_app _ (by rfl) _ _ 30 (by rfl) 0 25 i3 _ 3 40 Tryd.underlying30 hi3 hz3 hs3 hb3 rfl (by decide) _ _ _ (L.flatMap rtCells) (by rfl) (AB.out.call hB3).rows.row _ 1 _ (rtCells ((r, (A5, c5)) : RtZ)) (by rfl) (Rd.new (by simp) rfl) (by intro x hx; simp [rtCells] at hx; rcases hx with rfl | rfl | rfl <;> rfl) (by unfold maxLen; omega) (by omega) (Nat.zero_le _) ?_; intro A2 c2 w5 hown2 hgrow2 hblk2 _; have hs3' := hB3.size; have hX5 := (hgrow2.block w.heap.size (by omega) HNA.out).trans hX3; have hbx5 := (hgrow2.block bt (by omega) (AB.out.call hB3).bt_A).trans (AB.out.call hB3).box; have q5 := cell_of_row w5 bt 1 _ _ _ hbx5; have f5 := frozen_of_row w5 bt 1 _ _ hbx5; have hX6 : (w5.setCell ⟨bt, 1, none⟩ (.slice A2 (L.length + 1) c2)).heap[w.heap.size]? = some (.cells #[.int .i64 r.kind, .int .i64 r.cost, .slice Ar r.path.length cr] 25 (0, 0)) := (Below.heap_setCell _ _ _ _ (show w.heap.size ≠ bt by omega)).trans hX5)
      refine hK.out _ _ (HC.out _ (by assumption)) (fun hHeld4 => ?_)
      clear hK K hHeld3
      try simp only [Act.put, List.setIfInBounds_toArray, List.set_cons_zero, List.set_cons_succ]
      refine take_list (i := 9) (v := ?_) rfl (by kernel_rfl) (by kernel_rfl) (by kernel_rfl) (fun _ _ _ h => h) (Or.inl ⟨by rfl, ?_⟩) (by assumption) ?_
      rotate_left
      · (intro w hSw; (try dsimp only at hSw); go_simp; try (with_reducible rfl))
      try simp only [Act.put, List.setIfInBounds_toArray, List.set_cons_zero, List.set_cons_succ]
      refine take_list (i := 10) (v := ?_) rfl (by kernel_rfl) (by kernel_rfl) (by kernel_rfl) (fun _ _ _ h => h) (Or.inl ⟨by rfl, ?_⟩) (by assumption) ?_
      rotate_left
      · (intro w hSw; (try dsimp only at hSw); go_simp; try (with_reducible rfl))
      try simp only [Act.put, List.setIfInBounds_toArray, List.set_cons_zero, List.set_cons_succ]
      refine wpAnyH_ready (rs := [11]) (by kernel_rfl) (by simp) ?_
      refine cons_list rfl (fun K hK => ?_) AllReadyH.nil
      go_simp
      refine hK.out _ _ (HC.out _ (by assumption)) (fun hHeld5 => ?_)
      clear hK K hHeld4
      try simp only [Act.put, List.setIfInBounds_toArray, List.set_cons_zero, List.set_cons_succ]
      refine wpAnyH_done (by kernel_rfl) ?_ _
      clear hHeld5
      obtain ⟨w6, hw6⟩ : ∃ x, x = w5.setCell ⟨bt, 1, none⟩ (.slice A2 (L.length + 1) c2) := ⟨_, rfl⟩
      have HW6 := Lib.hid hw6
      have hC6 : Chg ow t w1 w6 := by rw [hw6]; exact ((Chg.of_below hB3).then (Chg.grown hgrow2 AB.out.rows.ta)).then (Chg.setCell (q := ⟨bt, 1, none⟩) AB.out.tb _)
      have hb6 : w6.heap[bt]? = some (.cells #[.int .i64 most, .slice A2 (L.length + 1) c2, .map (some bm)] 49 (0, 0)) := by rw [hw6]; exact heap_setCell_same w5 bt 1 _ _ (.slice A2 (L.length + 1) c2) hbx5
      have HM6 : Hid (MapAt w6 Tryd.prog bm 9 (ents (L.map (·.1)))) := Lib.hid (by rw [hw6]; exact ((AB.out.call hB3).map.grown hgrow2 (AB.out.call hB3).bm_A).setCell (p := ⟨bt, 1, none⟩) AB.out.bm_bt _)
      rw [← hw6] at hX6 ⊢
      have R6 := Lib.hid (RX.out.chg hC6)
      have T6 := Lib.hid (HT.out _ ((Chg.of_below B0.out).then hC6))
      have HIN := Lib.hid (⟨hB3, ho5, hown2, hgrow2, hblk2⟩ : _ ∧ _ ∧ _ ∧ _ ∧ _)
      have HX6 := Lib.hid hX6
      have HB6 := Lib.hid hb6
      have HTS := Lib.hid (txt_size HOK.out)
      clear hw6 hB2 hX2 hX3 q1 q2 q3 hown2 hgrow2 hblk2 hX5 hbx5 q5 f5 hB3 ho5 hBd hXd hC6
      go_upto_region 3 with fail
      have HC3 : Hid (∀ wy : World, wy.heap[w.heap.size]? = some (.cells #[.int .i64 r.kind, .int .i64 r.cost, .slice Ar r.path.length cr] 25 (0, 0)) → wy.heap[bt]? = some (.cells #[.int .i64 most, .slice A2 (L.length + 1) c2, .map (some bm)] 49 (0, 0)) → wy.cell? ⟨bt, 2, none⟩ = some (.map (some bm)) ∧ wy.cell? ⟨w.heap.size, 0, none⟩ = some (.int .i64 r.kind) ∧ wy.cell? ⟨w.heap.size, 1, none⟩ = some (.int .i64 r.cost) ∧ wy.cell? ⟨w.heap.size, 2, none⟩ = some (.slice Ar r.path.length cr)) := Lib.hid (fun wy b b' => ⟨cell_of_row wy _ 2 _ _ _ b', results_best b⟩)
      have CP : Hid (∀ wy, Below w6.heap.size w6 wy → Calls Tryd.prog 26 #[.agg #[.int .i64 r.kind, .int .i64 r.cost, .slice Ar r.path.length cr]] wy fun e w' => e = .returned (.string (txt r)) ∧ Below w6.heap.size w6 w') := Lib.hid (fun wy hb => (print_any r Ar cr wy (R6.out.call hb).1 (T6.out.call hb) HP.out.1 HP.out.2.1 HP.out.2.2).mono fun e w' ⟨s, h1, h2, h3⟩ => ⟨by rw [h1, txt_of h2], since_trans hb h3⟩)
      have hBd6 : Below w6.heap.size w6 w6.drew := below_drew (Below.refl _ _)
      have hXd6 : w6.drew.heap[w.heap.size]? = some (.cells #[.int .i64 r.kind, .int .i64 r.cost, .slice Ar r.path.length cr] 25 (0, 0)) := HX6.out
      have hbd6 : w6.drew.heap[bt]? = some (.cells #[.int .i64 most, .slice A2 (L.length + 1) c2, .map (some bm)] 49 (0, 0)) := HB6.out
      clear hX6 hb6
      refine wp_region_held_drew (S := (fun wy => wy.cell? ⟨bt, 2, none⟩ = some (.map (some bm)) ∧ wy.cell? ⟨w.heap.size, 0, none⟩ = some (.int .i64 r.kind) ∧ wy.cell? ⟨w.heap.size, 1, none⟩ = some (.int .i64 r.cost) ∧ wy.cell? ⟨w.heap.size, 2, none⟩ = some (.slice Ar r.path.length cr))) (by kernel_rfl) (HC3.out _ hXd6 hbd6) (fun hHeld0 => ?_)
      refine take_list (i := 0) (v := ?_) rfl (by kernel_rfl) (by kernel_rfl) (by kernel_rfl) (fun _ _ _ h => h) (Or.inl ⟨by rfl, ?_⟩) (by assumption) ?_
      rotate_left
      · (intro w hSw; (try dsimp only at hSw); go_simp; try (with_reducible rfl))
      try simp only [Act.put, List.setIfInBounds_toArray, List.set_cons_zero, List.set_cons_succ]
      refine take_list (i := 1) (v := ?_) rfl (by kernel_rfl) (by kernel_rfl) (by kernel_rfl) (fun _ _ _ h => h) (Or.inl ⟨by rfl, ?_⟩) (by assumption) ?_
      rotate_left
      · (intro w hSw; (try dsimp only at hSw); go_simp; try (with_reducible rfl))
      try simp only [Act.put, List.setIfInBounds_toArray, List.set_cons_zero, List.set_cons_succ]
      refine take_list (i := 2) (v := ?_) rfl (by kernel_rfl) (by kernel_rfl) (by kernel_rfl) (fun _ _ _ h => h) (Or.inl ⟨by rfl, ?_⟩) (by assumption) ?_
      rotate_left
      · (intro w hSw; (try dsimp only at hSw); go_simp; try (with_reducible rfl))
      try simp only [Act.put, List.setIfInBounds_toArray, List.set_cons_zero, List.set_cons_succ]
      refine take_list (i := 3) (v := ?_) rfl (by kernel_rfl) (by kernel_rfl) (by kernel_rfl) (fun _ _ _ h => h) (Or.inl ⟨by rfl, ?_⟩) (by assumption) ?_
      rotate_left
      · (intro w hSw; (try dsimp only at hSw); go_simp; try (with_reducible rfl))
      try simp only [Act.put, List.setIfInBounds_toArray, List.set_cons_zero, List.set_cons_succ]
      refine take_list (i := 4) (v := ?_) rfl (by kernel_rfl) (by kernel_rfl) (by kernel_rfl) (fun _ _ _ h => h) (Or.inl ⟨by rfl, ?_⟩) (by assumption) ?_
      rotate_left
      · (intro w hSw; (try dsimp only at hSw); go_simp; try (with_reducible rfl))
      try simp only [Act.put, List.setIfInBounds_toArray, List.set_cons_zero, List.set_cons_succ]
      refine take_list (i := 6) (v := ?_) rfl (by kernel_rfl) (by kernel_rfl) (by kernel_rfl) (fun _ _ _ h => h) (Or.inl ⟨by rfl, ?_⟩) (by assumption) ?_
      rotate_left
      · (intro w hSw; (try dsimp only at hSw); go_simp; try (with_reducible rfl))
      try simp only [Act.put, List.setIfInBounds_toArray, List.set_cons_zero, List.set_cons_succ]
      refine wpAnyH_ready (rs := [5]) (by kernel_rfl) (by simp) ?_
      refine cons_list rfl (fun K hK => ?_) AllReadyH.nil
      go_simp
      (go_at_call 26; refine (CP.out _ hBd6).mono ?_; rintro e w7 ⟨rfl, hB7⟩; have hX7 := (hB7.block _ (lt_heap HX6.out)).trans HX6.out; have hb7 := (hB7.block _ (lt_heap HB6.out)).trans HB6.out)
      refine hK.out _ _ (HC3.out _ (by assumption) (by assumption)) (fun hHeld1 => ?_)
      clear hK K hHeld0
      try simp only [Act.put, List.setIfInBounds_toArray, List.set_cons_zero, List.set_cons_succ]
      refine wpAnyH_ready (rs := [7]) (by kernel_rfl) (by simp) ?_
      refine cons_list rfl (fun K hK => ?_) AllReadyH.nil
      (refine step_mapput (by rfl) _ _ _ _ (by rfl) 3 Tryd.keyStr Tryd.underlying47 (by rfl) (HM6.out.call hB7) (.string (txt r)) (.int .i64 (L.length : Int)) _ (by rfl) (by rfl) (Go.WideMaps.keyOf_string_mk Tryd.underlying9 HTS.out) ?_; intro w8 m' hput hm8 hg8; have hX8 := (hg8.block _ (lt_heap hX7) (fun e => by injection e with e; omega)).trans hX7; have hb8 := (hg8.block _ (lt_heap hb7) (fun e => AX.out.bm_bt (by injection e with e; exact e.symm))).trans hb7)
      refine hK.out _ _ (HC3.out _ (by assumption) (by assumption)) (fun hHeld2 => ?_)
      clear hK K hHeld1
      try simp only [Act.put, List.setIfInBounds_toArray, List.set_cons_zero, List.set_cons_succ]
      refine wpAnyH_done (by kernel_rfl) ?_ _
      clear hHeld2
      obtain ⟨i1, i2, i3', i4, i5⟩ := HIN.out
      have HF := Lib.hid (AX.out.put ht (since_trans B0.out i1) (z := ((r, (A5, c5)) : RtZ)) (i2.alloc _) HOK.out HNEW.out rfl i4 i3' i5 (by rw [← HW6.out]; exact hB7) hm8 hput hg8)
      clear i1 i2 i3' i4 i5 hm8 hput hg8 hB7 hX7 hb7 hX8 hb8 hBd6 hXd6 hbd6
      go_wp2
      go_ret
      obtain ⟨ow', hf1, hf2, hf3⟩ := HF.out
      exact ⟨rfl, _, A2, c2, ow', rfl, hf1, hf2, hf3⟩

/-- What Find says of any route. -/
def findG (L : List Rt) (r : Rt) : Int := if rtRightB r = true then findT L r else -1
set_option maxRecDepth 100000 in
set_option maxHeartbeats 4000000 in
theorem find8_any (r : Rt) (Ar : Option Addr) (cr : Nat) {w : World} {ow : Nat → Nat} {t bt bm : Nat} {most : Int} {L : List RtZ} {A : Option Addr} {c : Nat} (a : TabT w ow t bt bm most L A c) (hr : RtR w w.heap.size r Ar cr) (hT : Tab w) :
    Calls Tryd.prog 16 #[.pointer (some ⟨bt, 0, none⟩), rtV r Ar cr] w fun e w' => e = .returned (.int .i64 (findG (L.map (·.1)) r)) ∧ Below w.heap.size w w' := by
  have AB := Lib.hid (a.boxed (.cells #[.int .i64 r.kind, .int .i64 r.cost, .slice Ar r.path.length cr] 25))
  have B0 := Lib.hid ((Below.refl w.heap.size w).alloc (Nat.le_refl _) (.cells #[.int .i64 r.kind, .int .i64 r.cost, .slice Ar r.path.length cr] 25))
  have BX := Lib.hid (Box.new hr)
  have TX := Lib.hid (hT.call B0.out)
  clear a hr hT
  unfold rtV
  go_enter Tryd.func16, Tryd.ntmps16
  go_upto_region 1 with fail
  generalize (w.alloc (.cells #[.int .i64 r.kind, .int .i64 r.cost, .slice Ar r.path.length cr] 25)) = w1 at *
  obtain ⟨b0, b1, b2⟩ := BX.out.at_
  go_wp2_with fail
  refine (right_rt r Ar cr _ BX.out.rt).mono ?_
  rintro e w2 ⟨rfl, hb2⟩
  have A2 := Lib.hid (AB.out.call hb2)
  have X2 := Lib.hid (BX.out.call hb2)
  have T2 := Lib.hid (TX.out.call hb2)
  have B2 := Lib.hid (since_trans B0.out hb2)
  clear hb2 b0 b1 b2
  cases hrr : rtRightB r with
  | false =>
    have HF := Lib.hid (show (-1 : Int) = findG (L.map (·.1)) r from by unfold findG; rw [hrr]; rfl)
    clear hrr
    go_wp2
    go_ret
    exact ⟨ret_int HF.out, B2.out⟩
  | true =>
  have HOK := Lib.hid (rt_ok hrr)
  have HFG := Lib.hid (show findG (L.map (·.1)) r = findT (L.map (·.1)) r from by unfold findG; rw [hrr]; rfl)
  have HP := Lib.hid HOK.out.prints
  have HTS := Lib.hid (txt_size HOK.out)
  clear hrr
  go_upto_region 3 with fail
  have HC : Hid (∀ wy, Below w2.heap.size w2 wy → wy.cell? ⟨bt, 2, none⟩ = some (.map (some bm)) ∧ wy.cell? ⟨w.heap.size, 0, none⟩ = some (.int .i64 r.kind) ∧ wy.cell? ⟨w.heap.size, 1, none⟩ = some (.int .i64 r.cost) ∧ wy.cell? ⟨w.heap.size, 2, none⟩ = some (.slice Ar r.path.length cr)) := Lib.hid (fun wy hb => ⟨(A2.out.call hb).all.2.2, (X2.out.call hb).at_⟩)
  have CP : Hid (∀ wy, Below w2.heap.size w2 wy → Calls Tryd.prog 26 #[.agg #[.int .i64 r.kind, .int .i64 r.cost, .slice Ar r.path.length cr]] wy fun e w' => e = .returned (.string (txt r)) ∧ Below w2.heap.size w2 w') := Lib.hid (fun wy hb => (print_any r Ar cr wy (X2.out.call hb).rt (T2.out.call hb) HP.out.1 HP.out.2.1 HP.out.2.2).mono fun e w' ⟨s, h1, h2, h3⟩ => ⟨by rw [h1, txt_of h2], since_trans hb h3⟩)
  have hBd : Below w2.heap.size w2 w2.drew := below_drew (Below.refl _ _)
  refine wp_region_held_drew (S := (fun wy => wy.cell? ⟨bt, 2, none⟩ = some (.map (some bm)) ∧ wy.cell? ⟨w.heap.size, 0, none⟩ = some (.int .i64 r.kind) ∧ wy.cell? ⟨w.heap.size, 1, none⟩ = some (.int .i64 r.cost) ∧ wy.cell? ⟨w.heap.size, 2, none⟩ = some (.slice Ar r.path.length cr))) (by kernel_rfl) (HC.out _ hBd) (fun hHeld0 => ?_)
  refine take_list (i := 0) (v := ?_) rfl (by kernel_rfl) (by kernel_rfl) (by kernel_rfl) (fun _ _ _ h => h) (Or.inl ⟨by rfl, ?_⟩) (by assumption) ?_
  rotate_left
  · (intro w hSw; (try dsimp only at hSw); go_simp; try (with_reducible rfl))
  try simp only [Act.put, List.setIfInBounds_toArray, List.set_cons_zero, List.set_cons_succ]
  refine take_list (i := 1) (v := ?_) rfl (by kernel_rfl) (by kernel_rfl) (by kernel_rfl) (fun _ _ _ h => h) (Or.inl ⟨by rfl, ?_⟩) (by assumption) ?_
  rotate_left
  · (intro w hSw; (try dsimp only at hSw); go_simp; try (with_reducible rfl))
  try simp only [Act.put, List.setIfInBounds_toArray, List.set_cons_zero, List.set_cons_succ]
  refine take_list (i := 2) (v := ?_) rfl (by kernel_rfl) (by kernel_rfl) (by kernel_rfl) (fun _ _ _ h => h) (Or.inl ⟨by rfl, ?_⟩) (by assumption) ?_
  rotate_left
  · (intro w hSw; (try dsimp only at hSw); go_simp; try (with_reducible rfl))
  try simp only [Act.put, List.setIfInBounds_toArray, List.set_cons_zero, List.set_cons_succ]
  refine take_list (i := 3) (v := ?_) rfl (by kernel_rfl) (by kernel_rfl) (by kernel_rfl) (fun _ _ _ h => h) (Or.inl ⟨by rfl, ?_⟩) (by assumption) ?_
  rotate_left
  · (intro w hSw; (try dsimp only at hSw); go_simp; try (with_reducible rfl))
  try simp only [Act.put, List.setIfInBounds_toArray, List.set_cons_zero, List.set_cons_succ]
  refine take_list (i := 4) (v := ?_) rfl (by kernel_rfl) (by kernel_rfl) (by kernel_rfl) (fun _ _ _ h => h) (Or.inl ⟨by rfl, ?_⟩) (by assumption) ?_
  rotate_left
  · (intro w hSw; (try dsimp only at hSw); go_simp; try (with_reducible rfl))
  try simp only [Act.put, List.setIfInBounds_toArray, List.set_cons_zero, List.set_cons_succ]
  refine wpAnyH_ready (rs := [5]) (by kernel_rfl) (by simp) ?_
  refine cons_list rfl (fun K hK => ?_) AllReadyH.nil
  go_simp
  (go_at_call 26; refine (CP.out _ hBd).mono ?_; rintro e w3 ⟨rfl, hB3⟩)
  refine hK.out _ _ (HC.out _ (by assumption)) (fun hHeld1 => ?_)
  clear hK K hHeld0
  try simp only [Act.put, List.setIfInBounds_toArray, List.set_cons_zero, List.set_cons_succ]
  refine wpAnyH_ready (rs := [6]) (by kernel_rfl) (by simp) ?_
  refine cons_list rfl (fun K hK => ?_) AllReadyH.nil
  (refine step_maplook (by rfl) _ _ _ (by rfl) 3 Tryd.keyStr Tryd.underlying47 (by rfl) (A2.out.call hB3).map (.int .i64 0) (by rfl) (.string (txt r)) _ (by rfl) (Go.WideMaps.keyOf_string_mk Tryd.underlying9 HTS.out) ?_; intro v ok hlook)
  refine hK.out _ _ (HC.out _ (by assumption)) (fun hHeld2 => ?_)
  clear hK K hHeld1
  try simp only [Act.put, List.setIfInBounds_toArray, List.set_cons_zero, List.set_cons_succ]
  refine take_list (i := 7) (v := ?_) rfl (by kernel_rfl) (by kernel_rfl) (by kernel_rfl) (fun _ _ _ h => h) (Or.inl ⟨by rfl, ?_⟩) (by assumption) ?_
  rotate_left
  · (intro w hSw; (try dsimp only at hSw); go_simp; try (with_reducible rfl))
  try simp only [Act.put, List.setIfInBounds_toArray, List.set_cons_zero, List.set_cons_succ]
  refine take_list (i := 8) (v := ?_) rfl (by kernel_rfl) (by kernel_rfl) (by kernel_rfl) (fun _ _ _ h => h) (Or.inl ⟨by rfl, ?_⟩) (by assumption) ?_
  rotate_left
  · (intro w hSw; (try dsimp only at hSw); go_simp; try (with_reducible rfl))
  try simp only [Act.put, List.setIfInBounds_toArray, List.set_cons_zero, List.set_cons_succ]
  refine take_list (i := 10) (v := ?_) rfl (by kernel_rfl) (by kernel_rfl) (by kernel_rfl) (fun _ _ _ h => h) (Or.inl ⟨by rfl, ?_⟩) (by assumption) ?_
  rotate_left
  · (intro w hSw; (try dsimp only at hSw); go_simp; try (with_reducible rfl))
  try simp only [Act.put, List.setIfInBounds_toArray, List.set_cons_zero, List.set_cons_succ]
  refine take_list (i := 9) (v := ?_) rfl (by kernel_rfl) (by kernel_rfl) (by kernel_rfl) (fun _ _ _ h => h) (Or.inl ⟨by rfl, ?_⟩) (by assumption) ?_
  rotate_left
  · (intro w hSw; (try dsimp only at hSw); go_simp; try (with_reducible rfl))
  try simp only [Act.put, List.setIfInBounds_toArray, List.set_cons_zero, List.set_cons_succ]
  refine take_list (i := 11) (v := ?_) rfl (by kernel_rfl) (by kernel_rfl) (by kernel_rfl) (fun _ _ _ h => h) (Or.inl ⟨by rfl, ?_⟩) (by assumption) ?_
  rotate_left
  · (intro w hSw; (try dsimp only at hSw); go_simp; try (with_reducible rfl))
  try simp only [Act.put, List.setIfInBounds_toArray, List.set_cons_zero, List.set_cons_succ]
  refine wpAnyH_done (by kernel_rfl) ?_ _
  clear hHeld2
  have B3 := Lib.hid (since_trans B2.out hB3)
  have HL := Lib.hid (look_ents A2.out.oks A2.out.nodup HOK.out hlook)
  clear hlook hB3 hBd
  rcases HL.out with ⟨rfl, hm, rfl⟩ | ⟨rfl, hm⟩
  · have HF := Lib.hid (show ((L.map (·.1)).idxOf r : Int) = findG (L.map (·.1)) r from by rw [HFG.out]; unfold findT; rw [if_pos hm])
    clear hm
    go_wp2
    go_ret
    exact ⟨ret_int HF.out, B3.out⟩
  · have HF := Lib.hid (show (-1 : Int) = findG (L.map (·.1)) r from by rw [HFG.out]; unfold findT; rw [if_neg hm])
    clear hm
    go_wp2
    go_ret
    exact ⟨ret_int HF.out, B3.out⟩

def addGL (most : Int) (L : List Rt) (r : Rt) : List Rt := if rtRightB r = true then addL most L r else L
def addGN (most : Int) (L : List Rt) (r : Rt) : Int := if rtRightB r = true then addN most L r else 0
def addGE (most : Int) (L : List Rt) (r : Rt) : Int := if rtRightB r = true then addE most L r else 1
def AddPost (w : World) (ow : Nat → Nat) (t bt bm : Nat) (most : Int) (L : List RtZ) (r : Rt) (e : Ending) (w' : World) : Prop :=
  ∃ (L' : List RtZ) (A' : Option Addr) (c' : Nat) (ow' : Nat → Nat), e = .returned (.tuple #[.int .i64 (addGN most (L.map (·.1)) r), .int .i64 (addGE most (L.map (·.1)) r)]) ∧ L'.map (·.1) = addGL most (L.map (·.1)) r ∧ Agr w ow ow' ∧ TabT w' ow' t bt bm most L' A' c' ∧ Chg ow t w w'
set_option maxRecDepth 100000 in
set_option maxHeartbeats 4000000 in
theorem add8_any (r : Rt) (Ar : Option Addr) (cr : Nat) {w : World} {ow : Nat → Nat} {t bt bm : Nat} {most : Int} {L : List RtZ} {A : Option Addr} {c : Nat} (a : TabT w ow t bt bm most L A c) (ht : t ≠ 0) (hr : RtT w ow t r Ar cr) (hT : ∀ w', Chg ow t w w' → Tab w') (hL : L.length ≤ 1000) :
    Calls Tryd.prog 13 #[.pointer (some ⟨bt, 0, none⟩), rtV r Ar cr] w (AddPost w ow t bt bm most L r) := by
  have AX := Lib.hid a
  have AB := Lib.hid (a.boxed (.cells #[.int .i64 r.kind, .int .i64 r.cost, .slice Ar r.path.length cr] 25))
  have B0 := Lib.hid ((Below.refl w.heap.size w).alloc (Nat.le_refl _) (.cells #[.int .i64 r.kind, .int .i64 r.cost, .slice Ar r.path.length cr] 25))
  have BX := Lib.hid (Box.new hr.1)
  have RX := Lib.hid (hr.call B0.out)
  have HT := Lib.hid hT
  have HSAME : Hid (∀ w', Below w.heap.size w w' → ∀ n e : Int, n = addGN most (L.map (·.1)) r → e = addGE most (L.map (·.1)) r → L.map (·.1) = addGL most (L.map (·.1)) r → AddPost w ow t bt bm most L r (.returned (.tuple #[.int .i64 n, .int .i64 e])) w') := Lib.hid (fun w' hb n e h1 h2 h3 => ⟨L, A, c, ow, by rw [h1, h2], h3, Agr.refl _ _, AX.out.call hb, Chg.of_below hb⟩)
  clear a hr hT
  unfold rtV
  go_enter Tryd.func13, Tryd.ntmps13
  go_upto_region 1 with fail
  generalize (w.alloc (.cells #[.int .i64 r.kind, .int .i64 r.cost, .slice Ar r.path.length cr] 25)) = w1 at *
  obtain ⟨b0, b1, b2⟩ := BX.out.at_
  go_wp2_with fail
  refine (right_rt r Ar cr _ BX.out.rt).mono ?_
  rintro e w2 ⟨rfl, hb2⟩
  have A2 := Lib.hid (AB.out.call hb2)
  have X2 := Lib.hid (BX.out.call hb2)
  have R2 := Lib.hid (RX.out.call hb2)
  have B2 := Lib.hid (since_trans B0.out hb2)
  clear hb2 b0 b1 b2
  cases hrr : rtRightB r with
  | false =>
    have HF := Lib.hid (HSAME.out _ B2.out 0 1 (by unfold addGN; rw [hrr]; rfl) (by unfold addGE; rw [hrr]; rfl) (by unfold addGL; rw [hrr]; rfl))
    clear hrr
    go_wp2
    exact bodyPost_ret (v := .tuple #[.int .i64 0, .int .i64 1]) (by simp [results, Tryd.results13, go_sem]) rfl HF.out
  | true =>
  have HOK := Lib.hid (rt_ok hrr)
  have HRR := Lib.hid hrr
  have hfg : findG (L.map (·.1)) r = findT (L.map (·.1)) r := by unfold findG; rw [hrr]; rfl
  clear hrr
  obtain ⟨b0, b1, b2⟩ := X2.out.at_
  go_wp2_with fail
  refine (find8_any r Ar cr A2.out X2.out.rt (HT.out _ (Chg.of_below B2.out))).mono ?_
  rintro e w3 ⟨rfl, hb3⟩
  rw [hfg]
  have A3 := Lib.hid (A2.out.call hb3)
  have X3 := Lib.hid (X2.out.call hb3)
  have R3 := Lib.hid (R2.out.call hb3)
  have B3 := Lib.hid (since_trans B2.out hb3)
  clear hb3 b0 b1 b2 hfg
  by_cases hm : r ∈ L.map (·.1)
  · have hft : findT (L.map (·.1)) r = (((L.map (·.1)).idxOf r : Nat) : Int) := by unfold findT; rw [if_pos hm]
    rw [hft]
    have HF := Lib.hid (HSAME.out _ B3.out (((L.map (·.1)).idxOf r : Nat) : Int) 0 (by unfold addGN addN; rw [HRR.out, if_pos rfl, if_pos hm]) (by unfold addGE addE; rw [HRR.out, if_pos rfl, if_pos hm]) (by unfold addGL addL; rw [HRR.out, if_pos rfl, if_pos hm]))
    generalize (L.map (·.1)).idxOf r = ix at *
    have hix : decide ((0 : Int) ≤ (ix : Int)) = true := decide_eq_true (by omega)
    clear hm hft
    go_wp2
    exact bodyPost_ret (v := .tuple #[.int .i64 (ix : Int), .int .i64 0]) (by simp [results, Tryd.results13, go_sem]) rfl HF.out
  have hft : findT (L.map (·.1)) r = -1 := by unfold findT; rw [if_neg hm]
  rw [hft]
  have HM := Lib.hid hm
  clear hm hft
  go_upto_region 6 with fail
  have HC : Hid (∀ wy, Below w3.heap.size w3 wy → wy.cell? ⟨bt, 0, none⟩ = some (.int .i64 most) ∧ wy.cell? ⟨bt, 1, none⟩ = some (.slice A L.length c)) := Lib.hid (fun wy hb => ⟨(A3.out.call hb).all.1, (A3.out.call hb).all.2.1⟩)
  have hBd : Below w3.heap.size w3 w3.drew := below_drew (Below.refl _ _)
  by_cases hfull : most ≤ (L.length : Int)
  · have hd : decide (most ≤ (L.length : Int)) = true := decide_eq_true hfull
    have HF := Lib.hid (HSAME.out _ (since_trans B3.out hBd) 0 60 (by unfold addGN addN; rw [HRR.out, if_pos rfl, if_neg HM.out, if_pos (by rw [List.length_map]; exact hfull)]) (by unfold addGE addE; rw [HRR.out, if_pos rfl, if_neg HM.out, if_pos (by rw [List.length_map]; exact hfull)]) (by unfold addGL addL; rw [HRR.out, if_pos rfl, if_neg HM.out, if_pos (by rw [List.length_map]; exact hfull)]))
    clear hfull
    refine wp_region_held_drew (S := (fun wy => wy.cell? ⟨bt, 0, none⟩ = some (.int .i64 most) ∧ wy.cell? ⟨bt, 1, none⟩ = some (.slice A L.length c))) (by kernel_rfl) (HC.out _ hBd) (fun hHeld0 => ?_)
    refine take_list (i := 0) (v := ?_) rfl (by kernel_rfl) (by kernel_rfl) (by kernel_rfl) (fun _ _ _ h => h) (Or.inl ⟨by rfl, ?_⟩) (by assumption) ?_
    rotate_left
    · (intro w hSw; (try dsimp only at hSw); go_simp; try (with_reducible rfl))
    try simp only [Act.put, List.setIfInBounds_toArray, List.set_cons_zero, List.set_cons_succ]
    refine take_list (i := 1) (v := ?_) rfl (by kernel_rfl) (by kernel_rfl) (by kernel_rfl) (fun _ _ _ h => h) (Or.inl ⟨by rfl, ?_⟩) (by assumption) ?_
    rotate_left
    · (intro w hSw; (try dsimp only at hSw); go_simp; try (with_reducible rfl))
    try simp only [Act.put, List.setIfInBounds_toArray, List.set_cons_zero, List.set_cons_succ]
    refine take_list (i := 2) (v := ?_) rfl (by kernel_rfl) (by kernel_rfl) (by kernel_rfl) (fun _ _ _ h => h) (Or.inl ⟨by rfl, ?_⟩) (by assumption) ?_
    rotate_left
    · (intro w hSw; (try dsimp only at hSw); go_simp; try (with_reducible rfl))
    try simp only [Act.put, List.setIfInBounds_toArray, List.set_cons_zero, List.set_cons_succ]
    refine take_list (i := 3) (v := ?_) rfl (by kernel_rfl) (by kernel_rfl) (by kernel_rfl) (fun _ _ _ h => h) (Or.inl ⟨by rfl, ?_⟩) (by assumption) ?_
    rotate_left
    · (intro w hSw; (try dsimp only at hSw); go_simp; try (with_reducible rfl))
    try simp only [Act.put, List.setIfInBounds_toArray, List.set_cons_zero, List.set_cons_succ]
    refine take_list (i := 4) (v := ?_) rfl (by kernel_rfl) (by kernel_rfl) (by kernel_rfl) (fun _ _ _ h => h) (Or.inl ⟨by rfl, ?_⟩) (by assumption) ?_
    rotate_left
    · (intro w hSw; (try dsimp only at hSw); go_simp; try (with_reducible rfl))
    try simp only [Act.put, List.setIfInBounds_toArray, List.set_cons_zero, List.set_cons_succ]
    refine take_list (i := 5) (v := ?_) rfl (by kernel_rfl) (by kernel_rfl) (by kernel_rfl) (fun _ _ _ h => h) (Or.inl ⟨by rfl, ?_⟩) (by assumption) ?_
    rotate_left
    · (intro w hSw; (try dsimp only at hSw); go_simp; try (with_reducible rfl))
    try simp only [Act.put, List.setIfInBounds_toArray, List.set_cons_zero, List.set_cons_succ]
    refine take_list (i := 6) (v := ?_) rfl (by kernel_rfl) (by kernel_rfl) (by kernel_rfl) (fun _ _ _ h => h) (Or.inl ⟨by rfl, ?_⟩) (by assumption) ?_
    rotate_left
    · (intro w hSw; (try dsimp only at hSw); go_simp; try (with_reducible rfl))
    try simp only [Act.put, List.setIfInBounds_toArray, List.set_cons_zero, List.set_cons_succ]
    refine take_list (i := 7) (v := ?_) rfl (by kernel_rfl) (by kernel_rfl) (by kernel_rfl) (fun _ _ _ h => h) (Or.inl ⟨by rfl, ?_⟩) (by assumption) ?_
    rotate_left
    · (intro w hSw; (try dsimp only at hSw); go_simp; try (with_reducible rfl))
    try simp only [Act.put, List.setIfInBounds_toArray, List.set_cons_zero, List.set_cons_succ]
    refine take_list (i := 8) (v := ?_) rfl (by kernel_rfl) (by kernel_rfl) (by kernel_rfl) (fun _ _ _ h => h) (Or.inl ⟨by rfl, ?_⟩) (by assumption) ?_
    rotate_left
    · (intro w hSw; (try dsimp only at hSw); go_simp; try (with_reducible rfl))
    try simp only [Act.put, List.setIfInBounds_toArray, List.set_cons_zero, List.set_cons_succ]
    refine take_list (i := 9) (v := ?_) rfl (by kernel_rfl) (by kernel_rfl) (by kernel_rfl) (fun _ _ _ h => h) (Or.inl ⟨by rfl, ?_⟩) (by assumption) ?_
    rotate_left
    · (intro w hSw; (try dsimp only at hSw); go_simp; try (with_reducible rfl))
    try simp only [Act.put, List.setIfInBounds_toArray, List.set_cons_zero, List.set_cons_succ]
    refine take_list (i := 10) (v := ?_) rfl (by kernel_rfl) (by kernel_rfl) (by kernel_rfl) (fun _ _ _ h => h) (Or.inl ⟨by rfl, ?_⟩) (by assumption) ?_
    rotate_left
    · (intro w hSw; (try dsimp only at hSw); go_simp; try (with_reducible rfl))
    try simp only [Act.put, List.setIfInBounds_toArray, List.set_cons_zero, List.set_cons_succ]
    refine take_list (i := 11) (v := ?_) rfl (by kernel_rfl) (by kernel_rfl) (by kernel_rfl) (fun _ _ _ h => h) (Or.inl ⟨by rfl, ?_⟩) (by assumption) ?_
    rotate_left
    · (intro w hSw; (try dsimp only at hSw); go_simp; try (with_reducible rfl))
    try simp only [Act.put, List.setIfInBounds_toArray, List.set_cons_zero, List.set_cons_succ]
    refine take_list (i := 12) (v := ?_) rfl (by kernel_rfl) (by kernel_rfl) (by kernel_rfl) (fun _ _ _ h => h) (Or.inl ⟨by rfl, ?_⟩) (by assumption) ?_
    rotate_left
    · (intro w hSw; (try dsimp only at hSw); go_simp; try (with_reducible rfl))
    try simp only [Act.put, List.setIfInBounds_toArray, List.set_cons_zero, List.set_cons_succ]
    refine take_list (i := 13) (v := ?_) rfl (by kernel_rfl) (by kernel_rfl) (by kernel_rfl) (fun _ _ _ h => h) (Or.inl ⟨by rfl, ?_⟩) (by assumption) ?_
    rotate_left
    · (intro w hSw; (try dsimp only at hSw); go_simp; try (with_reducible rfl))
    try simp only [Act.put, List.setIfInBounds_toArray, List.set_cons_zero, List.set_cons_succ]
    refine wpAnyH_done (by kernel_rfl) ?_ _
    clear hHeld0
    go_wp2
    exact bodyPost_ret (v := .tuple #[.int .i64 0, .int .i64 60]) (by simp [results, Tryd.results13, go_sem]) rfl HF.out
  · have hd : decide (most ≤ (L.length : Int)) = false := decide_eq_false hfull
    have HGN := Lib.hid (show addGN most (L.map (·.1)) r = (L.length : Int) ∧ addGE most (L.map (·.1)) r = 0 ∧ addGL most (L.map (·.1)) r = L.map (·.1) ++ [r] from ⟨by unfold addGN addN; rw [HRR.out, if_pos rfl, if_neg HM.out, if_neg (by rw [List.length_map]; exact hfull), List.length_map], by unfold addGE addE; rw [HRR.out, if_pos rfl, if_neg HM.out, if_neg (by rw [List.length_map]; exact hfull)], by unfold addGL addL; rw [HRR.out, if_pos rfl, if_neg HM.out, if_neg (by rw [List.length_map]; exact hfull)]⟩)
    clear hfull
    refine wp_region_held_drew (S := (fun wy => wy.cell? ⟨bt, 0, none⟩ = some (.int .i64 most) ∧ wy.cell? ⟨bt, 1, none⟩ = some (.slice A L.length c))) (by kernel_rfl) (HC.out _ hBd) (fun hHeld0 => ?_)
    refine take_list (i := 0) (v := ?_) rfl (by kernel_rfl) (by kernel_rfl) (by kernel_rfl) (fun _ _ _ h => h) (Or.inl ⟨by rfl, ?_⟩) (by assumption) ?_
    rotate_left
    · (intro w hSw; (try dsimp only at hSw); go_simp; try (with_reducible rfl))
    try simp only [Act.put, List.setIfInBounds_toArray, List.set_cons_zero, List.set_cons_succ]
    refine take_list (i := 1) (v := ?_) rfl (by kernel_rfl) (by kernel_rfl) (by kernel_rfl) (fun _ _ _ h => h) (Or.inl ⟨by rfl, ?_⟩) (by assumption) ?_
    rotate_left
    · (intro w hSw; (try dsimp only at hSw); go_simp; try (with_reducible rfl))
    try simp only [Act.put, List.setIfInBounds_toArray, List.set_cons_zero, List.set_cons_succ]
    refine take_list (i := 2) (v := ?_) rfl (by kernel_rfl) (by kernel_rfl) (by kernel_rfl) (fun _ _ _ h => h) (Or.inl ⟨by rfl, ?_⟩) (by assumption) ?_
    rotate_left
    · (intro w hSw; (try dsimp only at hSw); go_simp; try (with_reducible rfl))
    try simp only [Act.put, List.setIfInBounds_toArray, List.set_cons_zero, List.set_cons_succ]
    refine take_list (i := 3) (v := ?_) rfl (by kernel_rfl) (by kernel_rfl) (by kernel_rfl) (fun _ _ _ h => h) (Or.inl ⟨by rfl, ?_⟩) (by assumption) ?_
    rotate_left
    · (intro w hSw; (try dsimp only at hSw); go_simp; try (with_reducible rfl))
    try simp only [Act.put, List.setIfInBounds_toArray, List.set_cons_zero, List.set_cons_succ]
    refine take_list (i := 4) (v := ?_) rfl (by kernel_rfl) (by kernel_rfl) (by kernel_rfl) (fun _ _ _ h => h) (Or.inl ⟨by rfl, ?_⟩) (by assumption) ?_
    rotate_left
    · (intro w hSw; (try dsimp only at hSw); go_simp; try (with_reducible rfl))
    try simp only [Act.put, List.setIfInBounds_toArray, List.set_cons_zero, List.set_cons_succ]
    refine take_list (i := 5) (v := ?_) rfl (by kernel_rfl) (by kernel_rfl) (by kernel_rfl) (fun _ _ _ h => h) (Or.inl ⟨by rfl, ?_⟩) (by assumption) ?_
    rotate_left
    · (intro w hSw; (try dsimp only at hSw); go_simp; try (with_reducible rfl))
    try simp only [Act.put, List.setIfInBounds_toArray, List.set_cons_zero, List.set_cons_succ]
    refine take_list (i := 6) (v := ?_) rfl (by kernel_rfl) (by kernel_rfl) (by kernel_rfl) (fun _ _ _ h => h) (Or.inl ⟨by rfl, ?_⟩) (by assumption) ?_
    rotate_left
    · (intro w hSw; (try dsimp only at hSw); go_simp; try (with_reducible rfl))
    try simp only [Act.put, List.setIfInBounds_toArray, List.set_cons_zero, List.set_cons_succ]
    refine take_list (i := 7) (v := ?_) rfl (by kernel_rfl) (by kernel_rfl) (by kernel_rfl) (fun _ _ _ h => h) (Or.inl ⟨by rfl, ?_⟩) (by assumption) ?_
    rotate_left
    · (intro w hSw; (try dsimp only at hSw); go_simp; try (with_reducible rfl))
    try simp only [Act.put, List.setIfInBounds_toArray, List.set_cons_zero, List.set_cons_succ]
    refine take_list (i := 8) (v := ?_) rfl (by kernel_rfl) (by kernel_rfl) (by kernel_rfl) (fun _ _ _ h => h) (Or.inl ⟨by rfl, ?_⟩) (by assumption) ?_
    rotate_left
    · (intro w hSw; (try dsimp only at hSw); go_simp; try (with_reducible rfl))
    try simp only [Act.put, List.setIfInBounds_toArray, List.set_cons_zero, List.set_cons_succ]
    refine take_list (i := 9) (v := ?_) rfl (by kernel_rfl) (by kernel_rfl) (by kernel_rfl) (fun _ _ _ h => h) (Or.inl ⟨by rfl, ?_⟩) (by assumption) ?_
    rotate_left
    · (intro w hSw; (try dsimp only at hSw); go_simp; try (with_reducible rfl))
    try simp only [Act.put, List.setIfInBounds_toArray, List.set_cons_zero, List.set_cons_succ]
    refine take_list (i := 10) (v := ?_) rfl (by kernel_rfl) (by kernel_rfl) (by kernel_rfl) (fun _ _ _ h => h) (Or.inl ⟨by rfl, ?_⟩) (by assumption) ?_
    rotate_left
    · (intro w hSw; (try dsimp only at hSw); go_simp; try (with_reducible rfl))
    try simp only [Act.put, List.setIfInBounds_toArray, List.set_cons_zero, List.set_cons_succ]
    refine take_list (i := 11) (v := ?_) rfl (by kernel_rfl) (by kernel_rfl) (by kernel_rfl) (fun _ _ _ h => h) (Or.inl ⟨by rfl, ?_⟩) (by assumption) ?_
    rotate_left
    · (intro w hSw; (try dsimp only at hSw); go_simp; try (with_reducible rfl))
    try simp only [Act.put, List.setIfInBounds_toArray, List.set_cons_zero, List.set_cons_succ]
    refine take_list (i := 12) (v := ?_) rfl (by kernel_rfl) (by kernel_rfl) (by kernel_rfl) (fun _ _ _ h => h) (Or.inl ⟨by rfl, ?_⟩) (by assumption) ?_
    rotate_left
    · (intro w hSw; (try dsimp only at hSw); go_simp; try (with_reducible rfl))
    try simp only [Act.put, List.setIfInBounds_toArray, List.set_cons_zero, List.set_cons_succ]
    refine take_list (i := 13) (v := ?_) rfl (by kernel_rfl) (by kernel_rfl) (by kernel_rfl) (fun _ _ _ h => h) (Or.inl ⟨by rfl, ?_⟩) (by assumption) ?_
    rotate_left
    · (intro w hSw; (try dsimp only at hSw); go_simp; try (with_reducible rfl))
    try simp only [Act.put, List.setIfInBounds_toArray, List.set_cons_zero, List.set_cons_succ]
    refine wpAnyH_done (by kernel_rfl) ?_ _
    clear hHeld0
    have A4 := Lib.hid (A3.out.call hBd)
    have R4 := Lib.hid (R3.out.call hBd)
    have B4 := Lib.hid (since_trans B3.out hBd)
    obtain ⟨b0, b1, b2⟩ := (X3.out.call hBd).at_
    clear hBd
    generalize w3.drew = w4 at *
    go_wp2_with fail
    refine (put8_any r Ar cr A4.out ht R4.out HOK.out HM.out (fun w' hc => HT.out _ ((Chg.of_below B4.out).then hc)) hL).mono ?_
    rintro e w5 ⟨rfl, z, A2', c2', ow', hz, hag, htab, hch⟩
    have HF : Hid (AddPost w ow t bt bm most L r (.returned (.tuple #[.int .i64 (L.length : Int), .int .i64 0])) w5) := Lib.hid ⟨L ++ [z], A2', c2', ow', by rw [HGN.out.1, HGN.out.2.1], by rw [HGN.out.2.2, List.map_append, ← hz]; rfl, fun k hk => hag k (Nat.lt_of_lt_of_le hk B4.out.size), htab, (Chg.of_below B4.out).then hch⟩
    clear hag htab hch hz b0 b1 b2
    go_wp2
    exact bodyPost_ret (v := .tuple #[.int .i64 (L.length : Int), .int .i64 0]) (by simp [results, Tryd.results13, go_sem]) rfl HF.out

def getT (L : List Rt) (i : Int) : Rt := if 0 ≤ i then (L[i.toNat]?).getD rtNone else rtNone
set_option maxRecDepth 100000 in
set_option maxHeartbeats 4000000 in
theorem get8_any (i : Int) {w : World} {ow : Nat → Nat} {t bt bm : Nat} {most : Int} {L : List RtZ} {A : Option Addr} {c : Nat} (a : TabT w ow t bt bm most L A c) :
    Calls Tryd.prog 19 #[.pointer (some ⟨bt, 0, none⟩), .int .i64 i] w (OrPost (getT (L.map (·.1)) i) w) := by
  have AB := Lib.hid (a.boxed (.cells #[.int .i64 0, .int .i64 0, .slice none 0 0] 25))
  have O0 := Lib.hid (OutW.begin w)
  clear a
  go_enter Tryd.func19, Tryd.ntmps19
  go_upto_region 1 with fail
  generalize (w.alloc (.cells #[.int .i64 0, .int .i64 0, .slice none 0 0] 25)) = w1 at *
  obtain ⟨g0, g1, g2⟩ := AB.out.all
  obtain ⟨r0, r1, r2⟩ := results_best O0.out.out
  have f0 := O0.out.free 0
  have f1 := O0.out.free 1
  have f2 := O0.out.free 2
  by_cases h0 : i < 0
  · have HF : Hid (OrPost (getT (L.map (·.1)) i) w (.returned (.agg #[.int .i64 0, .int .i64 0, .slice none 0 0])) (((w1.setCell ⟨w.heap.size, 0, none⟩ (.int .i64 0)).setCell ⟨w.heap.size, 1, none⟩ (.int .i64 0)).setCell ⟨w.heap.size, 2, none⟩ (.slice none 0 0))) := Lib.hid (by
      have e : getT (L.map (·.1)) i = rtNone := by unfold getT; rw [if_neg (by omega)]
      rw [e]; exact ⟨none, 0, rfl, .inr ⟨rfl, Nat.zero_le _⟩, (O0.out.set rtNone none 0).below⟩)
    go_wp2
    exact bodyPost_ret (v := .agg #[.int .i64 0, .int .i64 0, .slice none 0 0]) (by simp [results, Tryd.results19, go_sem, rtNone, r0, r1, r2]) rfl HF.out
  obtain ⟨i, rfl⟩ : ∃ k : Nat, i = k := ⟨i.toNat, by omega⟩
  by_cases h1 : L.length ≤ i
  · have HF : Hid (OrPost (getT (L.map (·.1)) i) w (.returned (.agg #[.int .i64 0, .int .i64 0, .slice none 0 0])) (((w1.setCell ⟨w.heap.size, 0, none⟩ (.int .i64 0)).setCell ⟨w.heap.size, 1, none⟩ (.int .i64 0)).setCell ⟨w.heap.size, 2, none⟩ (.slice none 0 0))) := Lib.hid (by
      have e : getT (L.map (·.1)) i = rtNone := by unfold getT; rw [if_pos (by omega), Int.toNat_natCast, List.getElem?_eq_none (by rw [List.length_map]; exact h1)]; rfl
      rw [e]; exact ⟨none, 0, rfl, .inr ⟨rfl, Nat.zero_le _⟩, (O0.out.set rtNone none 0).below⟩)
    have hd0 : decide ((i : Int) < 0) = false := decide_eq_false h0
    have hd1 : decide ((L.length : Int) ≤ (i : Int)) = true := decide_eq_true (by omega)
    have hd2 : decide (L.length ≤ i) = true := decide_eq_true h1
    go_wp2
    exact bodyPost_ret (v := .agg #[.int .i64 0, .int .i64 0, .slice none 0 0]) (by simp [results, Tryd.results19, go_sem, rtNone, r0, r1, r2]) rfl HF.out
  have hd0 : decide ((i : Int) < 0) = false := decide_eq_false h0
  have hd1 : decide ((L.length : Int) ≤ (i : Int)) = false := decide_eq_false (by omega)
  have hd2 : decide (L.length ≤ i) = false := decide_eq_false h1
  have hi0 : (0 : Int) ≤ (i : Int) := by omega
  have hi1 : (i : Int) < (L.length : Int) := by omega
  have hi2 : i < L.length := by omega
  obtain ⟨z, hz⟩ : ∃ z, L[i]? = some z := ⟨_, List.getElem?_eq_getElem hi2⟩
  have HZ : Hid (getT (L.map (·.1)) i = z.1) := Lib.hid (by unfold getT; rw [if_pos hi0, Int.toNat_natCast, List.getElem?_map, hz]; rfl)
  have HPZ := Lib.hid ((AB.out.rows.each z (List.mem_of_getElem? hz)).rt)
  have HOZ := Lib.hid ((AB.out.ok z (List.mem_of_getElem? hz)).prints)
  obtain ⟨b, o, rfl, hb, z0, z1, z2⟩ := AB.out.rows.rts.at_ hz
  clear hz h0 h1 r0 r1 r2 f0 f1 f2
  go_wp2_with fail
  refine (own8_any z.1 z.2.1 z.2.2 _ HPZ.out HOZ.out.2.2).mono ?_
  rintro e w2 ⟨A5, c5, rfl, ho5, hb2⟩
  have O2 := Lib.hid (O0.out.call hb2)
  obtain ⟨r0, r1, r2⟩ := results_best O2.out.out
  have f0 := O2.out.free 0
  have f1 := O2.out.free 1
  have f2 := O2.out.free 2
  have hs1 := O0.out.size
  have HF : Hid (OrPost (getT (L.map (·.1)) i) w (.returned (.agg #[.int .i64 z.1.kind, .int .i64 z.1.cost, .slice A5 z.1.path.length c5])) (((w2.setCell ⟨w.heap.size, 0, none⟩ (.int .i64 z.1.kind)).setCell ⟨w.heap.size, 1, none⟩ (.int .i64 z.1.cost)).setCell ⟨w.heap.size, 2, none⟩ (.slice A5 z.1.path.length c5))) := Lib.hid (by
    rw [HZ.out]
    exact ⟨A5, c5, rfl, (((ho5.far (q := ⟨w.heap.size, 0, none⟩) hs1 _).far (q := ⟨w.heap.size, 1, none⟩) hs1 _).far (q := ⟨w.heap.size, 2, none⟩) hs1 _).more (by omega), (O2.out.set z.1 A5 c5).below⟩)
  clear hb2 ho5 z0 z1 z2 hb g0 g1 g2
  unfold rtV
  go_wp2
  exact bodyPost_ret (v := .agg #[.int .i64 z.1.kind, .int .i64 z.1.cost, .slice A5 z.1.path.length c5]) (by simp [results, Tryd.results19, go_sem, rtNone, r0, r1, r2]) rfl HF.out
def NewPost (w : World) (ow : Nat → Nat) (t : Nat) (most : Int) (e : Ending) (w' : World) : Prop :=
  ∃ (bt bm : Nat) (L : List RtZ) (A : Option Addr) (c : Nat) (ow' : Nat → Nat), e = .returned (.pointer (some ⟨bt, 0, none⟩)) ∧ L.map (·.1) = [rtNone] ∧ Agr w ow ow' ∧ TabT w' ow' t bt bm most L A c ∧ Below w.heap.size w w'
set_option maxRecDepth 100000 in
set_option maxHeartbeats 4000000 in
theorem new8_any (most : Int) (h1 : 1 ≤ most) (h2 : most ≤ 1073741824) (w : World) (ow : Nat → Nat) (t : Nat) (ht : t ≠ 0) (hT : Tab w) : Calls Tryd.prog 10 #[.int .i64 most] w (NewPost w ow t most) := by
  have A0 : Hid (TabT ((w.alloc (.map #[] 0)).alloc (.cells #[.int .i64 most, .slice none 0 0, .map (some w.heap.size)] 49)) (fun k => if k < w.heap.size then t + 1 else t) t (w.heap.size + 1) w.heap.size most [] none 0) := Lib.hid {
    box := by have := heap_alloc_new (w.alloc (.map #[] 0)) (.cells #[.int .i64 most, .slice none 0 0, .map (some w.heap.size)] 49); simpa using this
    rows := RowT.begin _ _ _
    map := (MapAt.new w Tryd.prog 9).alloc _
    ok := by intro z hz; cases hz
    nodup := by simp
    tb := if_neg (by omega)
    tm := if_neg (by omega) }
  have B0 := Lib.hid (((Below.refl w.heap.size w).alloc (Nat.le_refl _) (.map #[] 0)).alloc (by simp) (.cells #[.int .i64 most, .slice none 0 0, .map (some w.heap.size)] 49))
  have HB : Hid (∀ w', Chg (fun k => if k < w.heap.size then t + 1 else t) t ((w.alloc (.map #[] 0)).alloc (.cells #[.int .i64 most, .slice none 0 0, .map (some w.heap.size)] 49)) w' → Below w.heap.size w w') := Lib.hid (fun w' hc =>
    B0.out.trans (hc.below (fun k hk => by show (if k < w.heap.size then t + 1 else t) ≠ t; rw [if_pos hk]; omega) B0.out.size))
  have HTX := Lib.hid (fun w' hb => (hT.call (w' := w') hb))
  have HAG : Hid (∀ k, k < w.heap.size → (fun k => if k < w.heap.size then t + 1 else t) k = t + 1) := Lib.hid (fun k hk => if_pos hk)
  generalize (fun k => if k < w.heap.size then t + 1 else t) = ow2 at *
  clear hT
  have hmm := @run_makeMap Tryd.prog
  have hd1 : decide (most < 1) = false := decide_eq_false (by omega)
  have hd2 : decide (1073741824 < most) = false := decide_eq_false (by omega)
  go_enter Tryd.func10, Tryd.ntmps10
  go_upto_region 4 with fail
  generalize ((w.alloc (.map #[] 0)).alloc (.cells #[.int .i64 most, .slice none 0 0, .map (some w.heap.size)] 49)) = w2 at *
  go_wp2_with fail
  refine (put8_any rtNone none 0 A0.out ht ⟨⟨Rd.nil _, Nat.le_refl _, by simp [maxLen]⟩, fun h => absurd rfl h⟩ ok_none (by simp) (fun w' hc => HTX.out _ (HB.out _ hc)) (by simp)).mono ?_
  rintro e w3 ⟨rfl, z, A2, c2, ow', hz, hag, htab, hch⟩
  have HF : Hid (NewPost w ow t most (.returned (.pointer (some ⟨w.heap.size + 1, 0, none⟩))) w3) := Lib.hid ⟨_, _, [z], A2, c2, (fun k => if k < w.heap.size then ow k else ow' k), rfl, by simp [hz], fun k hk => if_pos hk, htab.retag2 (fun k hk => by
    show (if k < w.heap.size then ow k else ow' k) = 0
    by_cases h : k < w.heap.size
    · have := hag k (Nat.lt_of_lt_of_le h B0.out.size); rw [HAG.out k h, hk] at this; omega
    · rw [if_neg h]; exact hk) (fun k hk => by
    show (if k < w.heap.size then ow k else ow' k) = t
    by_cases h : k < w.heap.size
    · have := hag k (Nat.lt_of_lt_of_le h B0.out.size); rw [HAG.out k h, hk] at this; omega
    · rw [if_neg h]; exact hk), HB.out _ hch⟩
  clear hz hag htab hch
  go_wp2
  go_ret
  exact HF.out
end Go.Proofs.YtjdnkbpclhldfaaDoor

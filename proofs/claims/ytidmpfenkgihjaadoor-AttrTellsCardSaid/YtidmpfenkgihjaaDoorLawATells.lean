/- The walk of backstaylaw06.AttrTells. -/
import Derived.Test.YtidmpfenkgihjaaDoorRefP
import Derived.Test.YtidmpfenkgihjaaDoorRef6
import Derived.Test.YtidmpfenkgihjaaDoorAttrA
import Derived.Test.YtidmpfenkgihjaaDoorAttrB
import Derived.Test.YtidmpfenkgihjaaDoorRegs
namespace Go.Proofs.YtidmpfenkgihjaaDoor
set_option linter.unusedSimpArgs false
set_option linter.unusedVariables false
open Go.RowKit

/-- Routes in a row of the call's own; each one's list lies below it, or is the call's own. -/
structure LQ (w0 wr : World) (L : List RtZ) (A : Option Addr) (c : Nat) : Prop where
  below : Below w0.heap.size w0 wr
  row : Own wr w0.heap.size 41 3 A L.length c (L.flatMap rtCells)
  za : c = 0 → A = none
  each : ∀ z ∈ L, RtR wr w0.heap.size z.1 z.2.1 z.2.2 ∨ OwnOr wr w0.heap.size z.2.1 z.2.2 z.1.path
section
variable {w0 wr w1 w2 w' : World} {L : List RtZ} {A : Option Addr} {c : Nat}
theorem LQ.begin (hb : Below w0.heap.size w0 wr) : LQ w0 wr [] none 0 := ⟨hb, Own.nil _ _ _ _, fun _ => rfl, by intro z hz; cases hz⟩
theorem LQ.call (a : LQ w0 wr L A c) (hb : Below wr.heap.size wr w') : LQ w0 w' L A c :=
  ⟨a.below.trans (hb.mono a.below.size), a.row.call hb, a.za, fun z hz => (a.each z hz).imp (fun h => h.below hb a.below.size) (fun h => h.call hb)⟩
theorem LQ.alloc (a : LQ w0 wr L A c) (o : Obj) : LQ w0 (wr.alloc o) L A c := a.call ((Below.refl _ _).alloc (Nat.le_refl _) o)
theorem LQ.rts (a : LQ w0 wr L A c) : RtsR wr wr.heap.size L A := ⟨a.row.rd, fun z hz => (a.each z hz).elim (fun h => h.more a.below.size) (fun h => h.rt _ _)⟩
/-- One more. -/
theorem LQ.app (a : LQ w0 wr L A c) {z : RtZ} (ho : RtR wr w0.heap.size z.1 z.2.1 z.2.2 ∨ OwnOr wr w0.heap.size z.2.1 z.2.2 z.1.path) {A2 : Option Addr} {n c2 : Nat} (hn : n = L.length + 1) (hg : wr.grownBy w2 (blk A)) (hown : Own w2 w0.heap.size 41 3 A2 n c2 (L.flatMap rtCells ++ rtCells z)) :
    LQ w0 w2 (L ++ [z]) A2 c2 := by
  subst hn
  have key : ∀ y : RtZ, (RtR wr w0.heap.size y.1 y.2.1 y.2.2 ∨ OwnOr wr w0.heap.size y.2.1 y.2.2 y.1.path) → (RtR w2 w0.heap.size y.1 y.2.1 y.2.2 ∨ OwnOr w2 w0.heap.size y.2.1 y.2.2 y.1.path) := fun y hy =>
    hy.imp (fun h => ⟨h.1.grown hg a.below.size (fun g h => a.row.from_ g h), h.2⟩) (fun h => h.imp (fun h => h.keptN hg (own_two h a.row (by decide) a.za)) id)
  refine ⟨a.below.grown hg a.below.size (fun g h => a.row.from_ g h), ?_, ?_, ?_⟩
  · have e : (L ++ [z]).flatMap rtCells = L.flatMap rtCells ++ rtCells z := by simp
    rw [e]; simpa using hown
  · intro e; have := hown.2.1; omega
  · intro y hy
    rcases List.mem_append.1 hy with hy | hy
    · exact key y (a.each y hy)
    · simp at hy; subst hy
      exact key y ho
end
theorem RtOk.kindOk {r : Rt} (h : RtOk r) : KindOk r := h.kind
theorem RtOk.costs {r : Rt} (h : RtOk r) : -9223372036854775808 ≤ r.cost ∧ r.cost ≤ 9223372036854775807 := by
  rcases h.kind with e | e | e
  · rw [h.k0 e]; decide
  · have := h.k1 e; omega
  · have := h.k2 e; omega
theorem RtOk.pathLe {r : Rt} (h : RtOk r) : r.path.length ≤ 1000000 := by
  rcases h.kind with e | e | e
  · rw [h.k0 e]; simp [rtNone]
  · rw [(h.k1 e).2.2]; simp
  · have := (h.k2 e).2.1; omega
theorem RtOk.nums {r : Rt} (h : RtOk r) : ∀ x ∈ r.path, 0 ≤ x ∧ x ≤ 65535 := by
  rcases h.kind with e | e | e
  · rw [h.k0 e]; intro x hx; cases hx
  · rw [(h.k1 e).2.2]; intro x hx; cases hx
  · intro x hx; have := (h.k2 e).2.2.2 x hx; omega
theorem Tryd.info_rtX : (Tryd.prog.info? 41).map (fun i => (i.zero, i.size, i.bytes)) = some (some (.agg #[.int .i64 0, .int .i64 0, .slice none 0 0]), 3, 40) := by kernel_rfl
attribute [local go_sem ↓] Go.wp_at_zero Go.wp_at_succ
set_option maxRecDepth 100000 in
set_option maxHeartbeats 8000000 in
theorem attrTells_walk (a0 : Option Addr) (c0 : Nat) (l0 : List (List Int)) (V0 : List (Option Addr × Nat)) (r : Rt) (A : Option Addr) (C : Nat) (w : World) (h0 : RowsIn w a0 c0 l0 V0) (h1 : InRow w A C r.path) (ht : Tab w) :
    Calls Tryd.prog 4 #[.agg #[.int .i64 r.kind, .int .i64 r.cost, .slice A r.path.length C], .slice a0 l0.length c0] w fun e w' => e = .returned (.bool true) ∧ Below w.heap.size w w' := by
  have hml : l0.length ≤ maxLen := Nat.le_trans h0.le h0.max
  unfold maxLen at hml
  obtain ⟨i3, hi3, hz3, hs3, hb3⟩ := info_parts Tryd.info_rtX
  have hal : Below w.heap.size w (w.alloc (.cells #[.int .i64 r.kind, .int .i64 r.cost, .slice A r.path.length C] 41)) := (Below.refl _ _).alloc (Nat.le_refl _) _
  have H0 := Lib.hid (h0.call hal)
  have HT := Lib.hid (ht.call hal)
  have X0 : Hid (Box (w.alloc (.cells #[.int .i64 r.kind, .int .i64 r.cost, .slice A r.path.length C] 41)) w.heap.size r A C) := Lib.hid (Box.new ⟨h1.rd, h1.le, h1.max⟩)
  have B0 := Lib.hid hal
  clear h0 ht h1 hal
  go_enter Tryd.func4, Tryd.ntmps4
  go_wp2_with fail
  generalize (w.alloc (.cells #[.int .i64 r.kind, .int .i64 r.cost, .slice A r.path.length C] 41)) = wa at *
  refine (awake6 _ HT.out).mono ?_
  rintro e w1 ⟨rfl, hb1⟩
  have J0 := Lib.hid (H0.out.call hb1)
  have X1 := Lib.hid (X0.out.call hb1)
  have B1 := Lib.hid (since_trans B0.out hb1)
  have T1 := Lib.hid (HT.out.call hb1)
  clear hb1 H0 X0 B0 HT
  obtain ⟨ba, hba⟩ : ∃ ba, ba = w.heap.size := ⟨_, rfl⟩
  go_upto_region 2 with fail
  have HC : Hid (∀ wy, Below w1.heap.size w1 wy → wy.cell? ⟨w.heap.size, 0, none⟩ = some (.int .i64 r.kind) ∧ wy.cell? ⟨w.heap.size, 1, none⟩ = some (.int .i64 r.cost) ∧ wy.cell? ⟨w.heap.size, 2, none⟩ = some (.slice A r.path.length C)) := Lib.hid (fun wy hb => (X1.out.call hb).at_)
  have CR1 : Hid (∀ wy, Below w1.heap.size w1 wy → Calls Tryd.prog 15 #[.agg #[.int .i64 r.kind, .int .i64 r.cost, .slice A r.path.length C]] wy fun e w' => e = .returned (.bool (rtRightB r)) ∧ Below wy.heap.size wy w') := Lib.hid (fun wy hb => right_rt r A C wy (X1.out.call hb).rt)
  have CR2 : Hid (∀ wy, Below w1.heap.size w1 wy → Calls Tryd.prog 16 #[.agg #[.int .i64 r.kind, .int .i64 r.cost, .slice A r.path.length C]] wy fun e w' => e = .returned (.bool (rtRightB r)) ∧ Below wy.heap.size wy w') := Lib.hid (fun wy hb => refRight_any r A C wy (X1.out.call hb).rt)
  have hbb : (rtRightB r != rtRightB r) = false := by simp
  clear hba
  go_cut [17] (fun s wx => s = .bool false ∧ Below w1.heap.size w1 wx)
  case first =>
    have hb0 : Below w1.heap.size w1 w1.drew := below_drew (Below.refl _ _)
    generalize rtRightB r = rb at *
    refine wp_region_held_drew (S := (fun wy => wy.cell? ⟨w.heap.size, 0, none⟩ = some (.int .i64 r.kind) ∧ wy.cell? ⟨w.heap.size, 1, none⟩ = some (.int .i64 r.cost) ∧ wy.cell? ⟨w.heap.size, 2, none⟩ = some (.slice A r.path.length C))) (by kernel_rfl) (HC.out _ hb0) (fun hHeld0 => ?_)
    refine take_list (i := 0) (v := ?_) rfl (by kernel_rfl) (by kernel_rfl) (by kernel_rfl) (fun _ _ _ h => h) (Or.inl ⟨by rfl, ?_⟩) (by assumption) ?_
    rotate_left
    · (intro w hSw; (try dsimp only at hSw); go_simp; try (with_reducible rfl))
    try simp only [Act.put, List.setIfInBounds_toArray, List.set_cons_zero, List.set_cons_succ]
    refine take_list (i := 2) (v := ?_) rfl (by kernel_rfl) (by kernel_rfl) (by kernel_rfl) (fun _ _ _ h => h) (Or.inl ⟨by rfl, ?_⟩) (by assumption) ?_
    rotate_left
    · (intro w hSw; (try dsimp only at hSw); go_simp; try (with_reducible rfl))
    try simp only [Act.put, List.setIfInBounds_toArray, List.set_cons_zero, List.set_cons_succ]
    refine wpAnyH_ready (rs := [1]) (by kernel_rfl) (by simp) ?_
    refine cons_list rfl (fun K hK => ?_) AllReadyH.nil
    go_simp
    (go_at_call 15; refine (CR1.out _ hb0).mono ?_; rintro e wq1 ⟨rfl, hc1⟩; have hb1 := since_trans hb0 hc1)
    refine hK.out _ _ (HC.out _ (by assumption)) (fun hHeld1 => ?_)
    clear hK K hHeld0
    try simp only [Act.put, List.setIfInBounds_toArray, List.set_cons_zero, List.set_cons_succ]
    refine wpAnyH_ready (rs := [3]) (by kernel_rfl) (by simp) ?_
    refine cons_list rfl (fun K hK => ?_) AllReadyH.nil
    go_simp
    (go_at_call 16; refine (CR2.out _ hb1).mono ?_; rintro e wq2 ⟨rfl, hc2⟩; have hb2 := since_trans hb1 hc2)
    refine hK.out _ _ (HC.out _ (by assumption)) (fun hHeld2 => ?_)
    clear hK K hHeld1
    try simp only [Act.put, List.setIfInBounds_toArray, List.set_cons_zero, List.set_cons_succ]
    refine take_list (i := 4) (v := ?_) rfl (by kernel_rfl) (by kernel_rfl) (by kernel_rfl) (fun _ _ _ h => h) (Or.inl ⟨by rfl, ?_⟩) (by assumption) ?_
    rotate_left
    · (intro w hSw; (try dsimp only at hSw); go_simp; try (with_reducible rfl))
    try simp only [Act.put, List.setIfInBounds_toArray, List.set_cons_zero, List.set_cons_succ]
    refine wpAnyH_done (by kernel_rfl) ?_ _
    clear hHeld2
    go_wp2_with fail
    go_meet
    case rel => exact ⟨rfl, hb2⟩
  case rest =>
  obtain ⟨rfl, hbc⟩ := hcut
  obtain ⟨v1, rfl⟩ : ∃ v1, v1 = wc := ⟨_, rfl⟩
  have J1 := Lib.hid (J0.out.call hbc)
  have X2 := Lib.hid (X1.out.call hbc)
  have B2 := Lib.hid (since_trans B1.out hbc)
  have T2 := Lib.hid (T1.out.call hbc)
  have CR3 := Lib.hid (CR2.out v1 hbc)
  clear hbc HC CR1 CR2 hbb J0 X1 B1 T1
  rename_i hKl
  refine hKl _ _ ?_
  clear hKl
  go_upto_region 4 with fail
  go_cut [6] (fun s wx => s = .slice none 0 0 ∧ wx = v1)
  case first =>
    go_wp2_with fail
    go_meet
    case rel => exact ⟨rfl, rfl⟩
  case rest =>
  obtain ⟨rfl, hwc⟩ := hcut
  rw [hwc]
  clear hwc wc
  rename_i hKl
  refine hKl _ _ ?_
  clear hKl
  refine Go.wp_seq_k ?_
  intro K1 hK1
  go_cut [6] (fun sl wx => ∃ (L : List RtZ) (A' : Option Addr) (c' : Nat), sl = .slice A' L.length c' ∧ L.length ≤ 1 ∧ (∀ z ∈ L, RtOk z.1) ∧ LQ v1 wx L A' c')
  case first =>
    obtain ⟨x0, x1, x2⟩ := X2.out.at_
    go_wp2_with fail
    refine CR3.out.mono ?_
    rintro e w2 ⟨rfl, hb2⟩
    clear x0 x1 x2
    obtain ⟨x0, x1, x2⟩ := (X2.out.call hb2).at_
    have BC := Lib.hid hb2
    clear CR3 hb2
    by_cases hr : rtRightB r = true
    · have HOK := Lib.hid (rt_ok hr)
      have HR := Lib.hid (X2.out.rt.below BC.out (Nat.le_refl _))
      have HSZ := Lib.hid BC.out.size
      have L0 := Lib.hid (LQ.begin BC.out)
      rw [hr]
      clear hr
      go_wp2_with (at_builtin; go_loud (refine wpList_app _ rfl _ _ 44 rfl (v1.heap.size) 41 i3 _ 3 40 Tryd.underlying44 hi3 hz3 hs3 hb3 rfl (by decide) _ _ _ (([] : List RtZ).flatMap rtCells) rfl (L0.out.alloc _).row _ 1 _ (rtCells (r, (A, C))) rfl (Rd.new (by simp) rfl) ?h1 ?h63 ?hby ?hB ?_); go_loud (case h1 => intro u hu; simp [rtCells] at hu; rcases hu with rfl | rfl | rfl <;> rfl); go_loud (case h63 => unfold maxLen; simp); go_loud (case hby => simp); go_loud (case hB => have := HSZ.out; simp; omega); intro A2 c2 w5 hown2 hgrow2 hblk2 _; go_loud (have L5 := Lib.hid (LQ.app (z := (r, (A, C))) (L0.out.alloc _) (.inl (HR.out.alloc HSZ.out _)) (by rfl) hgrow2 hown2)); clear hown2 hgrow2 hblk2)
      go_meet
      case rel => exact ⟨[(r, (A, C))], A2, c2, rfl, by simp, by simp; exact HOK.out, L5.out⟩
    · have hr : rtRightB r = false := by simpa using hr
      have L0 := Lib.hid (LQ.begin BC.out)
      rw [hr]
      clear hr
      go_wp2_with fail
      go_meet
      case rel => exact ⟨[], none, 0, rfl, by simp, by simp, L0.out⟩
  case rest =>
  obtain ⟨L0, A0', c0', rfl, hL1, hok0, hLq0⟩ := hcut
  have LX0 := Lib.hid hLq0
  have OK0 := Lib.hid hok0
  clear hLq0 hok0
  refine hK1 _ _ ?_
  clear hK1
  refine Go.wp_seq_k ?_
  intro K1 hK1
  obtain ⟨v2, rfl⟩ : ∃ v2, v2 = wc := ⟨_, rfl⟩
  go_cut [6] (fun sl wx => ∃ (L : List RtZ) (A : Option Addr) (c : Nat), sl = .slice A L.length c ∧ L.length ≤ 7 ∧ (∀ z ∈ L, RtOk z.1) ∧ LQ v1 wx L A c)
  case first =>
    go_wp2_with fail
    go_loopw [6, 7] (fun sl si wx => ∃ (k : Nat) (L : List RtZ) (A : Option Addr) (c : Nat), k ≤ l0.length ∧ k ≤ 6 ∧ L.length ≤ k + 1 ∧ si = .int .i64 k ∧ sl = .slice A L.length c ∧ (∀ z ∈ L, RtOk z.1) ∧ LQ v1 wx L A c) (fun _ si _ => 6 - (intOf si).toNat)
    case atStart => exact ⟨0, L0, A0', c0', by omega, by omega, by omega, rfl, rfl, OK0.out, LX0.out⟩
    case round =>
      obtain ⟨k, L, A, c, hk, hk8, hLk, rfl, rfl, hok, hL⟩ := hrel
      have LX := Lib.hid hL
      have OX := Lib.hid hok
      have hL8 : L.length ≤ 7 := by omega
      clear hL hok
      by_cases hlt : k < l0.length ∧ k < 6
      · obtain ⟨hlt1, hlt2⟩ := hlt
        have J := Lib.hid (J1.out.call LX.out.below)
        obtain ⟨z, hz⟩ : ∃ z, (l0.zip V0)[k]? = some z := ⟨_, List.getElem?_eq_getElem (by have := J1.out.len; rw [List.length_zip]; omega)⟩
        obtain ⟨b, o, rfl, hb, hc⟩ := J.out.row.one (i := k) (x := rowV z) (by rw [List.getElem?_map, hz]; rfl)
        have IR := Lib.hid (J.out.each z (List.mem_of_getElem? hz))
        unfold rowV at hc
        have hk0 : (0 : Int) ≤ (k : Int) := by omega
        have hk1 : (k : Int) < (l0.length : Int) := by omega
        clear hz
        go_wp2_with fail
        refine (route_any z.1 _ _ _ IR.out.rd IR.out.in64 IR.out.len).mono ?_
        rintro e w4 ⟨A4, d4, rfl, ho, hb4⟩
        have L4 := Lib.hid (LX.out.call hb4)
        have O4 := Lib.hid (OwnOr.more (.inl ho) LX.out.below.size)
        clear ho hb4
        unfold rtV
        go_wp2_with (at_builtin; go_loud (refine wpList_app _ rfl _ _ 44 rfl (v1.heap.size) 41 i3 _ 3 40 Tryd.underlying44 hi3 hz3 hs3 hb3 rfl (by decide) _ _ _ (L.flatMap rtCells) rfl (L4.out.alloc _).row _ 1 _ (rtCells (routeR z.1, (A4, d4))) rfl (Rd.new (by simp) rfl) ?h1 ?h63 ?hby ?hB ?_); go_loud (case h1 => intro u hu; simp [rtCells] at hu; rcases hu with rfl | rfl | rfl <;> rfl); go_loud (case h63 => unfold maxLen; omega); go_loud (case hby => omega); go_loud (case hB => have := L4.out.below.size; simp; omega); intro A2 c2 w5 hown2 hgrow2 hblk2 _; go_loud (have L5 := Lib.hid (LQ.app (z := (routeR z.1, (A4, d4))) (L4.out.alloc _) (.inr (O4.out.alloc _)) (by rfl) hgrow2 hown2)); clear hown2 hgrow2 hblk2)
        go_roundw
        case rel => exact ⟨k + 1, _, A2, c2, by omega, by omega, by simp; omega, by go_num, by simp, (fun y hy => by
          rcases List.mem_append.1 hy with hy | hy
          · exact OX.out y hy
          · simp at hy; subst hy; exact routeR_ok z.1), L5.out⟩
        case measure => simp [intOf]; omega
      · by_cases hge : l0.length ≤ k
        · have hge' : (l0.length : Int) ≤ (k : Int) := by omega
          clear hlt hge
          go_wp2_with fail
          go_meet
          case rel => exact ⟨L, A, c, rfl, by omega, OX.out, LX.out⟩
        · have hge' : (k : Int) < (l0.length : Int) := by omega
          have hge8 : (6 : Int) ≤ (k : Int) := by omega
          clear hlt hge
          go_wp2_with fail
          go_meet
          case rel => exact ⟨L, A, c, rfl, by omega, OX.out, LX.out⟩
  case rest =>
  obtain ⟨L, A1, c1, rfl, hL7, hok, hLq⟩ := hcut
  have LX := Lib.hid hLq
  have OX := Lib.hid hok
  clear hLq hok LX0 OK0 hL1
  refine hK1 _ _ ?_
  clear hK1
  obtain ⟨v3, rfl⟩ : ∃ v3, v3 = wc := ⟨_, rfl⟩
  refine Go.wp_seq_k ?_
  intro K1 hK1
  go_cut [8] (fun _ wx => LQ v1 wx L A1 c1)
  case first =>
    go_wp2_with fail
    go_loopw [8] (fun si wx => ∃ i : Nat, i ≤ L.length ∧ si = .int .i64 i ∧ LQ v1 wx L A1 c1) (fun si _ => L.length - (intOf si).toNat)
    case atStart => exact ⟨0, by omega, rfl, LX.out⟩
    case round =>
      clear LX
      obtain ⟨i, hi, rfl, hL⟩ := hrel
      have LY := Lib.hid hL
      clear hL
      by_cases hlt : i < L.length
      rotate_left
      · have hge : (L.length : Int) ≤ (i : Int) := by omega
        clear hlt
        go_wp2_with fail
        go_meet
        case rel => exact LY.out
      obtain ⟨z, hz⟩ : ∃ z, L[i]? = some z := ⟨_, List.getElem?_eq_getElem hlt⟩
      obtain ⟨b, o, hA, hb, g0, g1, g2⟩ := LY.out.rts.at_ hz
      have HA := Lib.hid hA
      have OZ := Lib.hid (OX.out z (List.mem_of_getElem? hz))
      have XZ := Lib.hid (Box.new (LY.out.rts.each z (List.mem_of_getElem? hz)))
      have LZ := Lib.hid (LY.out.alloc (.cells #[.int .i64 z.1.kind, .int .i64 z.1.cost, .slice z.2.1 z.1.path.length z.2.2] 41))
      have hi0 : (0 : Int) ≤ (i : Int) := by omega
      have hi1 : (i : Int) < (L.length : Int) := by omega
      rw [hA]
      have HI := Lib.hid hlt
      clear hz hA hlt
      go_upto_region 15 with fail
      generalize (wr.alloc (.cells #[.int .i64 z.1.kind, .int .i64 z.1.cost, .slice z.2.1 z.1.path.length z.2.2] 41)) = v4 at *
      generalize wr.heap.size = b9 at *
      have CX : Hid (∀ wy, Below v4.heap.size v4 wy → wy.cell? ⟨b9, 0, none⟩ = some (.int .i64 z.1.kind) ∧ wy.cell? ⟨b9, 1, none⟩ = some (.int .i64 z.1.cost) ∧ wy.cell? ⟨b9, 2, none⟩ = some (.slice z.2.1 z.1.path.length z.2.2)) := Lib.hid (fun wy hb => (XZ.out.call hb).at_)
      have TX : Hid (∀ wy, Below v4.heap.size v4 wy → Tab wy) := Lib.hid (fun wy hb => (T2.out.call LZ.out.below).call hb)
      have C1 : Hid (∀ wy, Below v4.heap.size v4 wy → Calls Tryd.prog 15 #[.agg #[.int .i64 z.1.kind, .int .i64 z.1.cost, .slice z.2.1 z.1.path.length z.2.2]] wy fun e w' => e = .returned (.bool true) ∧ Below wy.heap.size wy w') := Lib.hid (fun wy hb => (right_rt z.1 z.2.1 z.2.2 wy (XZ.out.call hb).rt).mono fun e w' ⟨h1, h2⟩ => ⟨by rw [h1, OZ.out.right], h2⟩)
      have C2 : Hid (∀ wy, Below v4.heap.size v4 wy → Calls Tryd.prog 18 #[.agg #[.int .i64 z.1.kind, .int .i64 z.1.cost, .slice z.2.1 z.1.path.length z.2.2]] wy fun e w' => e = .returned (.string (printS z.1)) ∧ Below wy.heap.size wy w') := Lib.hid (fun wy hb => (print_any z.1 z.2.1 z.2.2 wy (XZ.out.call hb).rt (TX.out wy hb) OZ.out.costs OZ.out.nums OZ.out.pathLe).mono fun e w' ⟨s, h1, h2, h3⟩ => ⟨by rw [h1]; congr 2; apply bytes_ext; rw [h2]; rfl, h3⟩)
      have C3 : Hid (∀ wy, Below v4.heap.size v4 wy → Calls Tryd.prog 19 #[.agg #[.int .i64 z.1.kind, .int .i64 z.1.cost, .slice z.2.1 z.1.path.length z.2.2]] wy fun e w' => e = .returned (.string (printS z.1)) ∧ Below wy.heap.size wy w') := Lib.hid (fun wy hb => rprint_any z.1 z.2.1 z.2.2 wy (XZ.out.call hb).rt OZ.out)
      have C4 : Hid (∀ wy, Below v4.heap.size v4 wy → Calls Tryd.prog 20 #[.agg #[.int .i64 z.1.kind, .int .i64 z.1.cost, .slice z.2.1 z.1.path.length z.2.2]] wy fun e w' => e = .returned (.int .i64 (rtLen z.1)) ∧ Below wy.heap.size wy w') := Lib.hid (fun wy hb => length_rt z.1 z.2.1 z.2.2 wy)
      have C5 : Hid (∀ wy, Below v4.heap.size v4 wy → Calls Tryd.prog 21 #[.agg #[.int .i64 z.1.kind, .int .i64 z.1.cost, .slice z.2.1 z.1.path.length z.2.2]] wy fun e w' => e = .returned (.int .i64 (rtLen z.1)) ∧ Below wy.heap.size wy w') := Lib.hid (fun wy hb => rlength_any z.1 z.2.1 z.2.2 wy)
      go_cut [68] (fun s wx => s = .bool false ∧ Below v4.heap.size v4 wx)
      case first =>
        generalize printS z.1 = ps at *
        generalize rtLen z.1 = ln at *
        have hp1 : (ps.toList == ps.toList) = true := by simp
        have hp2 : (ps.data.toList == ps.data.toList) = true := by simp
        have hp3 : (ln != ln) = false := by simp
        have hb0 : Below v4.heap.size v4 v4.drew := below_drew (Below.refl _ _)
        clear g0 g1 g2 hb
        refine wp_region_held_drew (S := (fun wy => wy.cell? ⟨b9, 0, none⟩ = some (.int .i64 z.1.kind) ∧ wy.cell? ⟨b9, 1, none⟩ = some (.int .i64 z.1.cost) ∧ wy.cell? ⟨b9, 2, none⟩ = some (.slice z.2.1 z.1.path.length z.2.2))) (by kernel_rfl) (CX.out _ hb0) (fun hHeld0 => ?_)
        refine take_list (i := 0) (v := ?_) rfl (by kernel_rfl) (by kernel_rfl) (by kernel_rfl) (fun _ _ _ h => h) (Or.inl ⟨by rfl, ?_⟩) (by assumption) ?_
        rotate_left
        · (intro w hSw; (try dsimp only at hSw); go_simp; try (with_reducible rfl))
        try simp only [Act.put, List.setIfInBounds_toArray, List.set_cons_zero, List.set_cons_succ]
        refine wpAnyH_ready (rs := [1]) (by kernel_rfl) (by simp) ?_
        refine cons_list rfl (fun K hK => ?_) AllReadyH.nil
        go_simp
        (go_at_call 15; refine (C1.out _ hb0).mono ?_; rintro e wq1 ⟨rfl, hc1⟩; have hb1 := since_trans hb0 hc1)
        refine hK.out _ _ (CX.out _ (by assumption)) (fun hHeld1 => ?_)
        clear hK K hHeld0
        try simp only [Act.put, List.setIfInBounds_toArray, List.set_cons_zero, List.set_cons_succ]
        refine take_list (i := 2) (v := ?_) rfl (by kernel_rfl) (by kernel_rfl) (by kernel_rfl) (fun _ _ _ h => h) (Or.inl ⟨by rfl, ?_⟩) (by assumption) ?_
        rotate_left
        · (intro w hSw; (try dsimp only at hSw); go_simp; try (with_reducible rfl))
        try simp only [Act.put, List.setIfInBounds_toArray, List.set_cons_zero, List.set_cons_succ]
        refine take_list (i := 3) (v := ?_) rfl (by kernel_rfl) (by kernel_rfl) (by kernel_rfl) (fun _ _ _ h => h) (Or.inl ⟨by rfl, ?_⟩) (by assumption) ?_
        rotate_left
        · (intro w hSw; (try dsimp only at hSw); go_simp; try (with_reducible rfl))
        try simp only [Act.put, List.setIfInBounds_toArray, List.set_cons_zero, List.set_cons_succ]
        refine take_list (i := 4) (v := ?_) rfl (by kernel_rfl) (by kernel_rfl) (by kernel_rfl) (fun _ _ _ h => h) (Or.inl ⟨by rfl, ?_⟩) (by assumption) ?_
        rotate_left
        · (intro w hSw; (try dsimp only at hSw); go_simp; try (with_reducible rfl))
        try simp only [Act.put, List.setIfInBounds_toArray, List.set_cons_zero, List.set_cons_succ]
        refine take_list (i := 6) (v := ?_) rfl (by kernel_rfl) (by kernel_rfl) (by kernel_rfl) (fun _ _ _ h => h) (Or.inl ⟨by rfl, ?_⟩) (by assumption) ?_
        rotate_left
        · (intro w hSw; (try dsimp only at hSw); go_simp; try (with_reducible rfl))
        try simp only [Act.put, List.setIfInBounds_toArray, List.set_cons_zero, List.set_cons_succ]
        refine wpAnyH_ready (rs := [5]) (by kernel_rfl) (by simp) ?_
        refine cons_list rfl (fun K hK => ?_) AllReadyH.nil
        go_simp
        (go_at_call 18; refine (C2.out _ hb1).mono ?_; rintro e wq2 ⟨rfl, hc2⟩; have hb2 := since_trans hb1 hc2)
        refine hK.out _ _ (CX.out _ (by assumption)) (fun hHeld2 => ?_)
        clear hK K hHeld1
        try simp only [Act.put, List.setIfInBounds_toArray, List.set_cons_zero, List.set_cons_succ]
        refine wpAnyH_ready (rs := [7]) (by kernel_rfl) (by simp) ?_
        refine cons_list rfl (fun K hK => ?_) AllReadyH.nil
        go_simp
        (go_at_call 19; refine (C3.out _ hb2).mono ?_; rintro e wq3 ⟨rfl, hc3⟩; have hb3 := since_trans hb2 hc3)
        refine hK.out _ _ (CX.out _ (by assumption)) (fun hHeld3 => ?_)
        clear hK K hHeld2
        try simp only [Act.put, List.setIfInBounds_toArray, List.set_cons_zero, List.set_cons_succ]
        refine take_list (i := 8) (v := ?_) rfl (by kernel_rfl) (by kernel_rfl) (by kernel_rfl) (fun _ _ _ h => h) (Or.inl ⟨by rfl, ?_⟩) (by assumption) ?_
        rotate_left
        · (intro w hSw; (try dsimp only at hSw); go_simp; try (with_reducible rfl))
        try simp only [Act.put, List.setIfInBounds_toArray, List.set_cons_zero, List.set_cons_succ]
        refine take_list (i := 9) (v := ?_) rfl (by kernel_rfl) (by kernel_rfl) (by kernel_rfl) (fun _ _ _ h => h) (Or.inl ⟨by rfl, ?_⟩) (by assumption) ?_
        rotate_left
        · (intro w hSw; (try dsimp only at hSw); go_simp; try (with_reducible rfl))
        try simp only [Act.put, List.setIfInBounds_toArray, List.set_cons_zero, List.set_cons_succ]
        refine take_list (i := 10) (v := ?_) rfl (by kernel_rfl) (by kernel_rfl) (by kernel_rfl) (fun _ _ _ h => h) (Or.inl ⟨by rfl, ?_⟩) (by assumption) ?_
        rotate_left
        · (intro w hSw; (try dsimp only at hSw); go_simp; try (with_reducible rfl))
        try simp only [Act.put, List.setIfInBounds_toArray, List.set_cons_zero, List.set_cons_succ]
        refine take_list (i := 11) (v := ?_) rfl (by kernel_rfl) (by kernel_rfl) (by kernel_rfl) (fun _ _ _ h => h) (Or.inl ⟨by rfl, ?_⟩) (by assumption) ?_
        rotate_left
        · (intro w hSw; (try dsimp only at hSw); go_simp; try (with_reducible rfl))
        try simp only [Act.put, List.setIfInBounds_toArray, List.set_cons_zero, List.set_cons_succ]
        refine take_list (i := 13) (v := ?_) rfl (by kernel_rfl) (by kernel_rfl) (by kernel_rfl) (fun _ _ _ h => h) (Or.inl ⟨by rfl, ?_⟩) (by assumption) ?_
        rotate_left
        · (intro w hSw; (try dsimp only at hSw); go_simp; try (with_reducible rfl))
        try simp only [Act.put, List.setIfInBounds_toArray, List.set_cons_zero, List.set_cons_succ]
        refine wpAnyH_ready (rs := [12]) (by kernel_rfl) (by simp) ?_
        refine cons_list rfl (fun K hK => ?_) AllReadyH.nil
        go_simp
        (go_at_call 20; refine (C4.out _ hb3).mono ?_; rintro e wq4 ⟨rfl, hc4⟩; have hb4 := since_trans hb3 hc4)
        refine hK.out _ _ (CX.out _ (by assumption)) (fun hHeld4 => ?_)
        clear hK K hHeld3
        try simp only [Act.put, List.setIfInBounds_toArray, List.set_cons_zero, List.set_cons_succ]
        refine wpAnyH_ready (rs := [14]) (by kernel_rfl) (by simp) ?_
        refine cons_list rfl (fun K hK => ?_) AllReadyH.nil
        go_simp
        (go_at_call 21; refine (C5.out _ hb4).mono ?_; rintro e wq5 ⟨rfl, hc5⟩; have hb5 := since_trans hb4 hc5)
        refine hK.out _ _ (CX.out _ (by assumption)) (fun hHeld5 => ?_)
        clear hK K hHeld4
        try simp only [Act.put, List.setIfInBounds_toArray, List.set_cons_zero, List.set_cons_succ]
        refine take_list (i := 15) (v := ?_) rfl (by kernel_rfl) (by kernel_rfl) (by kernel_rfl) (fun _ _ _ h => h) (Or.inl ⟨by rfl, ?_⟩) (by assumption) ?_
        rotate_left
        · (intro w hSw; (try dsimp only at hSw); go_simp; try (with_reducible rfl))
        try simp only [Act.put, List.setIfInBounds_toArray, List.set_cons_zero, List.set_cons_succ]
        refine take_list (i := 16) (v := ?_) rfl (by kernel_rfl) (by kernel_rfl) (by kernel_rfl) (fun _ _ _ h => h) (Or.inl ⟨by rfl, ?_⟩) (by assumption) ?_
        rotate_left
        · (intro w hSw; (try dsimp only at hSw); go_simp; try (with_reducible rfl))
        try simp only [Act.put, List.setIfInBounds_toArray, List.set_cons_zero, List.set_cons_succ]
        refine wpAnyH_done (by kernel_rfl) ?_ _
        clear hHeld5
        go_wp2_with fail
        go_meet
        case rel => exact ⟨rfl, hb5⟩
      case rest =>
      obtain ⟨rfl, hbc⟩ := hcut
      clear C1 C2 C3 C4 C5 CX TX g0 g1 g2 hb
      have LZ2 := Lib.hid (LZ.out.call hbc)
      have XZ2 := Lib.hid (XZ.out.call hbc)
      clear LZ XZ hbc
      obtain ⟨v5, rfl⟩ : ∃ v5, v5 = wc := ⟨_, rfl⟩
      clear hi0 hi1
      go_wp2_with fail
      go_loopw [10] (fun si wx => ∃ k : Nat, k ≤ L.length ∧ si = .int .i64 k ∧ LQ v1 wx L A1 c1 ∧ Box wx b9 z.1 z.2.1 z.2.2) (fun si _ => L.length - (intOf si).toNat)
      case atStart => exact ⟨0, by omega, rfl, LZ2.out, XZ2.out⟩
      case round =>
        clear LZ2 XZ2
        obtain ⟨k, hk, rfl, hL, hX⟩ := hrel
        have LY := Lib.hid hL
        have XY := Lib.hid hX
        clear hL hX
        by_cases hlt : k < L.length
        rotate_left
        · have hge : (L.length : Int) ≤ (k : Int) := by omega
          clear hlt
          go_wp2_with fail
          rw [← HA.out]
          go_roundw
          case rel => exact ⟨i + 1, by have := HI.out; omega, by go_num, LY.out⟩
          case measure => have := HI.out; simp [intOf]; omega
        obtain ⟨y, hy⟩ : ∃ y, L[k]? = some y := ⟨_, List.getElem?_eq_getElem hlt⟩
        obtain ⟨b', o', hA2, hb, g0, g1, g2⟩ := LY.out.rts.at_ hy
        rw [HA.out] at hA2
        cases hA2
        have OY := Lib.hid (OX.out y (List.mem_of_getElem? hy))
        have RY := Lib.hid (LY.out.rts.each y (List.mem_of_getElem? hy))
        have YB := Lib.hid (Box.new RY.out)
        have hal : Below wr.heap.size wr (wr.alloc (.cells #[.int .i64 y.1.kind, .int .i64 y.1.cost, .slice y.2.1 y.1.path.length y.2.2] 41)) := (Below.refl _ _).alloc (Nat.le_refl _) _
        have LZ := Lib.hid (LY.out.call hal)
        have XZ := Lib.hid (XY.out.call hal)
        have hi0 : (0 : Int) ≤ (k : Int) := by omega
        have hi1 : (k : Int) < (L.length : Int) := by omega
        have HK := Lib.hid hlt
        clear hy hlt hal
        go_upto_region 21 with fail
        generalize (wr.alloc (.cells #[.int .i64 y.1.kind, .int .i64 y.1.cost, .slice y.2.1 y.1.path.length y.2.2] 41)) = v6 at *
        generalize wr.heap.size = b11 at *
        have CX : Hid (∀ wy, Below v6.heap.size v6 wy → wy.cell? ⟨b9, 0, none⟩ = some (.int .i64 z.1.kind) ∧ wy.cell? ⟨b9, 1, none⟩ = some (.int .i64 z.1.cost) ∧ wy.cell? ⟨b9, 2, none⟩ = some (.slice z.2.1 z.1.path.length z.2.2) ∧ wy.cell? ⟨b11, 0, none⟩ = some (.int .i64 y.1.kind) ∧ wy.cell? ⟨b11, 1, none⟩ = some (.int .i64 y.1.cost) ∧ wy.cell? ⟨b11, 2, none⟩ = some (.slice y.2.1 y.1.path.length y.2.2)) := Lib.hid (fun wy hb => by
          obtain ⟨x0, x1, x2⟩ := (XZ.out.call hb).at_
          obtain ⟨y0, y1, y2⟩ := (YB.out.call hb).at_
          exact ⟨x0, x1, x2, y0, y1, y2⟩)
        have C1 : Hid (∀ wy, Below v6.heap.size v6 wy → Calls Tryd.prog 22 #[.agg #[.int .i64 z.1.kind, .int .i64 z.1.cost, .slice z.2.1 z.1.path.length z.2.2], .agg #[.int .i64 y.1.kind, .int .i64 y.1.cost, .slice y.2.1 y.1.path.length y.2.2]] wy fun e w' => e = .returned (.bool (decide (z.1 = y.1))) ∧ Below wy.heap.size wy w') := Lib.hid (fun wy hb => same_rt z.1 y.1 _ _ _ _ wy (XZ.out.call hb).rt (YB.out.call hb).rt)
        have C2 : Hid (∀ wy, Below v6.heap.size v6 wy → Calls Tryd.prog 23 #[.agg #[.int .i64 z.1.kind, .int .i64 z.1.cost, .slice z.2.1 z.1.path.length z.2.2], .agg #[.int .i64 y.1.kind, .int .i64 y.1.cost, .slice y.2.1 y.1.path.length y.2.2]] wy fun e w' => e = .returned (.bool (decide (z.1 = y.1))) ∧ Below wy.heap.size wy w') := Lib.hid (fun wy hb => refSame_any z.1 y.1 _ _ _ _ wy (XZ.out.call hb).rt (YB.out.call hb).rt)
        have C3 : Hid (∀ wy, Below v6.heap.size v6 wy → Calls Tryd.prog 24 #[.agg #[.int .i64 z.1.kind, .int .i64 z.1.cost, .slice z.2.1 z.1.path.length z.2.2], .agg #[.int .i64 y.1.kind, .int .i64 y.1.cost, .slice y.2.1 y.1.path.length y.2.2]] wy fun e w' => e = .returned (.bool (betterB z.1 y.1)) ∧ Below wy.heap.size wy w') := Lib.hid (fun wy hb => better_rt z.1 y.1 _ _ _ _ wy (XZ.out.call hb).rt (YB.out.call hb).rt)
        have C4 : Hid (∀ wy, Below v6.heap.size v6 wy → Calls Tryd.prog 25 #[.agg #[.int .i64 z.1.kind, .int .i64 z.1.cost, .slice z.2.1 z.1.path.length z.2.2], .agg #[.int .i64 y.1.kind, .int .i64 y.1.cost, .slice y.2.1 y.1.path.length y.2.2]] wy fun e w' => e = .returned (.bool (betterB z.1 y.1)) ∧ Below wy.heap.size wy w') := Lib.hid (fun wy hb => (refBetter_any z.1 y.1 _ _ _ _ wy (XZ.out.call hb).rt (YB.out.call hb).rt).mono fun e w' ⟨h1, h2⟩ => ⟨by rw [h1, rbet_eq OZ.out.kindOk OY.out.kindOk], h2⟩)
        go_cut [94] (fun s wx => s = .bool false ∧ Below v6.heap.size v6 wx)
        case first =>
          generalize decide (z.1 = y.1) = q1 at *
          generalize betterB z.1 y.1 = q2 at *
          have hq1 : (q1 != q1) = false := by simp
          have hq2 : (q2 != q2) = false := by simp
          have hb0 : Below v6.heap.size v6 v6.drew := below_drew (Below.refl _ _)
          clear g0 g1 g2 hb hi0 hi1
          refine wp_region_held_drew (S := (fun wy => wy.cell? ⟨b9, 0, none⟩ = some (.int .i64 z.1.kind) ∧ wy.cell? ⟨b9, 1, none⟩ = some (.int .i64 z.1.cost) ∧ wy.cell? ⟨b9, 2, none⟩ = some (.slice z.2.1 z.1.path.length z.2.2) ∧ wy.cell? ⟨b11, 0, none⟩ = some (.int .i64 y.1.kind) ∧ wy.cell? ⟨b11, 1, none⟩ = some (.int .i64 y.1.cost) ∧ wy.cell? ⟨b11, 2, none⟩ = some (.slice y.2.1 y.1.path.length y.2.2))) (by kernel_rfl) (CX.out _ hb0) (fun hHeld0 => ?_)
          refine take_list (i := 0) (v := ?_) rfl (by kernel_rfl) (by kernel_rfl) (by kernel_rfl) (fun _ _ _ h => h) (Or.inl ⟨by rfl, ?_⟩) (by assumption) ?_
          rotate_left
          · (intro w hSw; (try dsimp only at hSw); go_simp; try (with_reducible rfl))
          try simp only [Act.put, List.setIfInBounds_toArray, List.set_cons_zero, List.set_cons_succ]
          refine take_list (i := 1) (v := ?_) rfl (by kernel_rfl) (by kernel_rfl) (by kernel_rfl) (fun _ _ _ h => h) (Or.inl ⟨by rfl, ?_⟩) (by assumption) ?_
          rotate_left
          · (intro w hSw; (try dsimp only at hSw); go_simp; try (with_reducible rfl))
          try simp only [Act.put, List.setIfInBounds_toArray, List.set_cons_zero, List.set_cons_succ]
          refine take_list (i := 3) (v := ?_) rfl (by kernel_rfl) (by kernel_rfl) (by kernel_rfl) (fun _ _ _ h => h) (Or.inl ⟨by rfl, ?_⟩) (by assumption) ?_
          rotate_left
          · (intro w hSw; (try dsimp only at hSw); go_simp; try (with_reducible rfl))
          try simp only [Act.put, List.setIfInBounds_toArray, List.set_cons_zero, List.set_cons_succ]
          refine take_list (i := 4) (v := ?_) rfl (by kernel_rfl) (by kernel_rfl) (by kernel_rfl) (fun _ _ _ h => h) (Or.inl ⟨by rfl, ?_⟩) (by assumption) ?_
          rotate_left
          · (intro w hSw; (try dsimp only at hSw); go_simp; try (with_reducible rfl))
          try simp only [Act.put, List.setIfInBounds_toArray, List.set_cons_zero, List.set_cons_succ]
          refine wpAnyH_ready (rs := [2]) (by kernel_rfl) (by simp) ?_
          refine cons_list rfl (fun K hK => ?_) AllReadyH.nil
          go_simp
          (go_at_call 22; refine (C1.out _ hb0).mono ?_; rintro e wq1 ⟨rfl, hc1⟩; have hb1 := since_trans hb0 hc1)
          refine hK.out _ _ (CX.out _ (by assumption)) (fun hHeld1 => ?_)
          clear hK K hHeld0
          try simp only [Act.put, List.setIfInBounds_toArray, List.set_cons_zero, List.set_cons_succ]
          refine wpAnyH_ready (rs := [5]) (by kernel_rfl) (by simp) ?_
          refine cons_list rfl (fun K hK => ?_) AllReadyH.nil
          go_simp
          (go_at_call 23; refine (C2.out _ hb1).mono ?_; rintro e wq2 ⟨rfl, hc2⟩; have hb2 := since_trans hb1 hc2)
          refine hK.out _ _ (CX.out _ (by assumption)) (fun hHeld2 => ?_)
          clear hK K hHeld1
          try simp only [Act.put, List.setIfInBounds_toArray, List.set_cons_zero, List.set_cons_succ]
          refine take_list (i := 6) (v := ?_) rfl (by kernel_rfl) (by kernel_rfl) (by kernel_rfl) (fun _ _ _ h => h) (Or.inl ⟨by rfl, ?_⟩) (by assumption) ?_
          rotate_left
          · (intro w hSw; (try dsimp only at hSw); go_simp; try (with_reducible rfl))
          try simp only [Act.put, List.setIfInBounds_toArray, List.set_cons_zero, List.set_cons_succ]
          refine take_list (i := 7) (v := ?_) rfl (by kernel_rfl) (by kernel_rfl) (by kernel_rfl) (fun _ _ _ h => h) (Or.inl ⟨by rfl, ?_⟩) (by assumption) ?_
          rotate_left
          · (intro w hSw; (try dsimp only at hSw); go_simp; try (with_reducible rfl))
          try simp only [Act.put, List.setIfInBounds_toArray, List.set_cons_zero, List.set_cons_succ]
          refine take_list (i := 8) (v := ?_) rfl (by kernel_rfl) (by kernel_rfl) (by kernel_rfl) (fun _ _ _ h => h) (Or.inl ⟨by rfl, ?_⟩) (by assumption) ?_
          rotate_left
          · (intro w hSw; (try dsimp only at hSw); go_simp; try (with_reducible rfl))
          try simp only [Act.put, List.setIfInBounds_toArray, List.set_cons_zero, List.set_cons_succ]
          refine take_list (i := 9) (v := ?_) rfl (by kernel_rfl) (by kernel_rfl) (by kernel_rfl) (fun _ _ _ h => h) (Or.inl ⟨by rfl, ?_⟩) (by assumption) ?_
          rotate_left
          · (intro w hSw; (try dsimp only at hSw); go_simp; try (with_reducible rfl))
          try simp only [Act.put, List.setIfInBounds_toArray, List.set_cons_zero, List.set_cons_succ]
          refine take_list (i := 11) (v := ?_) rfl (by kernel_rfl) (by kernel_rfl) (by kernel_rfl) (fun _ _ _ h => h) (Or.inl ⟨by rfl, ?_⟩) (by assumption) ?_
          rotate_left
          · (intro w hSw; (try dsimp only at hSw); go_simp; try (with_reducible rfl))
          try simp only [Act.put, List.setIfInBounds_toArray, List.set_cons_zero, List.set_cons_succ]
          refine take_list (i := 12) (v := ?_) rfl (by kernel_rfl) (by kernel_rfl) (by kernel_rfl) (fun _ _ _ h => h) (Or.inl ⟨by rfl, ?_⟩) (by assumption) ?_
          rotate_left
          · (intro w hSw; (try dsimp only at hSw); go_simp; try (with_reducible rfl))
          try simp only [Act.put, List.setIfInBounds_toArray, List.set_cons_zero, List.set_cons_succ]
          refine wpAnyH_ready (rs := [10]) (by kernel_rfl) (by simp) ?_
          refine cons_list rfl (fun K hK => ?_) AllReadyH.nil
          go_simp
          (go_at_call 24; refine (C3.out _ hb2).mono ?_; rintro e wq3 ⟨rfl, hc3⟩; have hb3 := since_trans hb2 hc3)
          refine hK.out _ _ (CX.out _ (by assumption)) (fun hHeld3 => ?_)
          clear hK K hHeld2
          try simp only [Act.put, List.setIfInBounds_toArray, List.set_cons_zero, List.set_cons_succ]
          refine wpAnyH_ready (rs := [13]) (by kernel_rfl) (by simp) ?_
          refine cons_list rfl (fun K hK => ?_) AllReadyH.nil
          go_simp
          (go_at_call 25; refine (C4.out _ hb3).mono ?_; rintro e wq4 ⟨rfl, hc4⟩; have hb4 := since_trans hb3 hc4)
          refine hK.out _ _ (CX.out _ (by assumption)) (fun hHeld4 => ?_)
          clear hK K hHeld3
          try simp only [Act.put, List.setIfInBounds_toArray, List.set_cons_zero, List.set_cons_succ]
          refine take_list (i := 14) (v := ?_) rfl (by kernel_rfl) (by kernel_rfl) (by kernel_rfl) (fun _ _ _ h => h) (Or.inl ⟨by rfl, ?_⟩) (by assumption) ?_
          rotate_left
          · (intro w hSw; (try dsimp only at hSw); go_simp; try (with_reducible rfl))
          try simp only [Act.put, List.setIfInBounds_toArray, List.set_cons_zero, List.set_cons_succ]
          refine take_list (i := 15) (v := ?_) rfl (by kernel_rfl) (by kernel_rfl) (by kernel_rfl) (fun _ _ _ h => h) (Or.inl ⟨by rfl, ?_⟩) (by assumption) ?_
          rotate_left
          · (intro w hSw; (try dsimp only at hSw); go_simp; try (with_reducible rfl))
          try simp only [Act.put, List.setIfInBounds_toArray, List.set_cons_zero, List.set_cons_succ]
          refine wpAnyH_done (by kernel_rfl) ?_ _
          clear hHeld4
          go_wp2_with fail
          go_meet
          case rel => exact ⟨rfl, hb4⟩
        case rest =>
        obtain ⟨rfl, hbc⟩ := hcut
        clear C1 C2 C3 C4 CX g0 g1 g2 hb
        have LZ2 := Lib.hid (LZ.out.call hbc)
        have XZ2 := Lib.hid (XZ.out.call hbc)
        clear LZ XZ hbc hi0 hi1
        go_wp2_with fail
        go_roundw
        case rel => exact ⟨k + 1, by have := HK.out; omega, by go_num, LZ2.out, XZ2.out⟩
        case measure => have := HK.out; simp [intOf]; omega
  case rest =>
  have LX2 := Lib.hid hcut
  clear LX hcut
  refine hK1 _ _ ?_
  clear hK1
  have HB := Lib.hid (since_trans B2.out LX2.out.below)
  have HRT := Lib.hid LX2.out.rts
  have HKO : Hid (∀ x ∈ L, KindOk x.1) := Lib.hid (fun x hx => (OX.out x hx).kindOk)
  have HSH : Hid (∀ x ∈ L, x.1.path.length ≤ 1000000) := Lib.hid (fun x hx => (OX.out x hx).pathLe)
  have HEQ : Hid ((rbestL L).1 = bestR (L.map (·.1))) := Lib.hid (rbestL_fst HKO.out)
  go_wp2_with fail
  refine (best_any L A1 c1 _ HRT.out (by omega) HSH.out).mono ?_
  rintro e w8 ⟨A8, c8, rfl, ho8, -, hb8⟩
  have O8 := Lib.hid (RtR.of_own ho8)
  have R8 := Lib.hid (HRT.out.call hb8)
  have HB8 := Lib.hid (since_trans HB.out hb8)
  clear ho8 hb8
  unfold rtV
  go_wp2_with fail
  refine (refBest_any L A1 c1 _ R8.out (by omega)).mono ?_
  rintro e w9 ⟨rfl, hb9⟩
  have HB9 := Lib.hid (since_trans HB8.out hb9)
  have O9 := Lib.hid (O8.out.call hb9)
  have R9 := Lib.hid (rbestL_rt (R8.out.call hb9))
  clear hb9 R8 O8 HRT HKO HSH OX LX2
  generalize rbestL L = zb at *
  generalize bestR (L.map (·.1)) = br at *
  go_wp2_with fail
  refine (refSame_any br zb.1 A8 zb.2.1 c8 zb.2.2 _ O9.out R9.out).mono ?_
  rintro e wz ⟨rfl, hbz⟩
  have HBZ := Lib.hid (since_trans HB9.out hbz)
  have hd : decide (br = zb.1) = true := by rw [HEQ.out]; simp
  clear hbz
  rw [hd]
  go_wp2_with fail
  go_ret
  exact ⟨rfl, HBZ.out⟩
end Go.Proofs.YtidmpfenkgihjaaDoor

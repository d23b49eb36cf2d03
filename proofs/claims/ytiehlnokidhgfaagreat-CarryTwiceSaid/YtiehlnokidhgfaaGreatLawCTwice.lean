/- The walk of backstaylaw07.CarryTwice. -/
import Derived.Test.YtiehlnokidhgfaaGreatAwake7
import Derived.Test.YtiehlnokidhgfaaGreatLaw7
import Derived.Test.YtiehlnokidhgfaaGreatNetB
namespace Go.Proofs.YtiehlnokidhgfaaGreat
set_option linter.unusedSimpArgs false
set_option linter.unusedVariables false
open Go.RowKit

/-- Over a link and back, plainly. -/
theorem twice_law {p : Net} (g : NetG p) {i : Nat} {x : Lk} (hx : LinkAt p i x) {r : Rt} (hr : Holds p (asOf p x.a) r) (hk : r.kind ≠ 0) :
    ((p.proto = 2 ∨ 15 < r.cost + 2 * x.cost) → (overR p i x.a (overR p i x.b r)).kind = 0) ∧ (p.proto ≠ 2 → ¬ 15 < r.cost + 2 * x.cost → overR p i x.a (overR p i x.b r) = ⟨1, r.cost + 2 * x.cost, []⟩) := by
  have oA := hx.othA
  have oB := hx.othB
  have hc := hx.c
  have hca := hx.a
  have hab := hx.ab
  have hmid := holds_over p i x.b r
  by_cases hp : p.proto = 2
  · refine ⟨fun _ => ?_, fun h => absurd hp h⟩
    by_cases h2 : (overR p i x.a (overR p i x.b r)).kind = 0
    · exact h2
    · obtain ⟨q1, q2, q3, q4⟩ := over_some g h2
      rcases q4 with ⟨_, _, _, _, q5⟩ | ⟨q, _⟩
      · obtain ⟨t1, t2, t3, t4⟩ := over_some g q2
        rcases t4 with ⟨_, t5, _⟩ | ⟨t, _⟩
        · rw [t5, oB] at q5
          simp at q5
        · exact absurd hp t
      · exact absurd hp q
  · have e1 := over_vec (n := x.b) hp (by rw [oB]; omega) hk (by rw [oB]; exact hr) (by rw [hx.cost]; omega)
    rw [hx.cost] at e1
    rcases hr.some hk with ⟨q, _⟩ | ⟨_, a1, a2, a3, a4⟩
    · exact absurd q hp
    by_cases h1 : r.cost + x.cost ≤ 15
    · rw [if_pos h1] at e1
      rw [e1] at hmid ⊢
      have e2 := over_vec (p := p) (k := (i : Int)) (n := x.a) (r := ⟨1, r.cost + x.cost, []⟩) hp (by rw [oA]; omega) (by simp) (by rw [oA]; exact hmid) (by rw [hx.cost]; omega)
      rw [hx.cost] at e2
      rw [e2]
      by_cases h2 : r.cost + x.cost + x.cost ≤ 15
      · simp only [h2, if_true]
        refine ⟨fun h => by omega, fun _ _ => ?_⟩
        congr 1; omega
      · simp only [h2, if_false]
        exact ⟨fun _ => rfl, fun _ h => by omega⟩
    · rw [if_neg h1] at e1
      rw [e1]
      have e2 : overR p i x.a rtNone = rtNone := over_none (.inr (.inl rfl))
      rw [e2]
      exact ⟨fun _ => rfl, fun _ h => by omega⟩
theorem box_set {w : World} {b : Nat} {A : Option Addr} {c n : Nat} {k co : Int} (kz : w.heap[b]? = some (.cells #[.int .i64 0, .int .i64 0, .slice none 0 0] 24 (0, 0))) :
    (((w.setCell ⟨b, 0, none⟩ (.int .i64 k)).setCell ⟨b, 1, none⟩ (.int .i64 co)).setCell ⟨b, 2, none⟩ (.slice A n c)).heap[b]? = some (.cells #[.int .i64 k, .int .i64 co, .slice A n c] 24 (0, 0)) := by
  rw [heap_setCell_same _ _ _ _ _ _ (heap_setCell_same _ _ _ _ _ _ (heap_setCell_same _ _ _ _ _ _ kz))]; simp
attribute [local go_sem ↓] Go.wp_at_zero Go.wp_at_succ
set_option maxRecDepth 100000 in
set_option maxHeartbeats 8000000 in
theorem carryTwice_walk (a0 a2 : Option Addr) (c0 c2 : Nat) (l0 l2 : List Int) (n1 : Int) (w : World) (h0 : InRow w a0 c0 l0) (h2 : InRow w a2 c2 l2) (k1 : In64 n1) :
    Calls Tryz.prog 5 #[.slice a0 l0.length c0, .int .i64 n1, .slice a2 l2.length c2] w fun e w' => e = .returned (.bool true) ∧ Below w.heap.size w w' := by
  have I1 := Lib.hid k1
  have H3 := Lib.hid h2
  clear k1 h2
  have H0 := Lib.hid h0
  clear h0
  go_enter Tryz.func5, Tryz.ntmps5
  go_wp2_with fail
  refine (awake7 _).mono ?_
  rintro e w1 ⟨rfl, hb1⟩
  have J0 := Lib.hid (H0.out.call hb1)
  have B1 := Lib.hid hb1
  clear hb1
  go_wp2_with fail
  refine (net_any _ _ l0 c0 J0.out.len J0.out.le J0.out.rd J0.out.in64).mono ?_
  rintro e w2 ⟨p, h, rfl, hok, hown, hb⟩
  have B2 := Lib.hid (since_trans B1.out hb)
  have OK := Lib.hid hok
  have GD := Lib.hid hok.good
  have NG := Lib.hid hok.good.netG
  have P0 : Hid (NW w (w2.alloc (.cells #[.int .i64 p.proto, .int .i64 p.cap, .int .i64 p.k, .slice h.an p.nodes.length h.cn, .slice h.al p.links.length h.cl, .slice h.ad p.dests.length h.cd, .slice h.ac p.checks.length h.cc] 31)) w2.heap.size p h []) := Lib.hid ⟨PB.begin B2.out hown.net, by intro z hz; cases hz⟩
  have hn2 := hok.n.1
  have hn7 := hok.n.2
  have hl9 := hok.l9
  clear hb hown hok J0
  unfold netV netVal
  go_upto_region 3 with fail
  generalize (w2.alloc (.cells #[.int .i64 p.proto, .int .i64 p.cap, .int .i64 p.k, .slice h.an p.nodes.length h.cn, .slice h.al p.links.length h.cl, .slice h.ad p.dests.length h.cd, .slice h.ac p.checks.length h.cc] 31)) = w3 at *
  generalize w2.heap.size = bp at *
  clear B1 B2
  obtain ⟨g0, g1, g2, g3, g4, g5, g6⟩ := P0.out.pb.all
  by_cases hL : p.links.length = 0
  · have hq : ((p.links.length : Int) == 0) = true := by simp [hL]
    clear hL
    go_wp2
    go_ret
    exact ⟨rfl, P0.out.pb.below⟩
  have hq : ((p.links.length : Int) == 0) = false := by simp [hL]
  have hLp : 0 < (p.links.length : Int) := by omega
  clear hL
  go_wp2_with fail
  refine (pick7_any n1 p.links.length _ I1.out hLp (by omega)).mono ?_
  rintro e w' ⟨rfl, rfl⟩
  have hi := pickV_in (c := n1) (n := p.links.length) hLp
  generalize pickV n1 p.links.length = i at *
  obtain ⟨i, rfl⟩ : ∃ k : Nat, i = k := ⟨i.toNat, by omega⟩
  obtain ⟨hi0, hi1⟩ := hi
  obtain ⟨x, hx⟩ := NG.out.link (k := i) (by omega)
  obtain ⟨bl, ol, el, hbl, x0, x1, x2⟩ := P0.out.net.links.link hx.at_
  have HE := Lib.hid el
  have HX := Lib.hid hx
  rw [el] at g4
  clear hLp
  have hfr := hx.a
  have hab := hx.ab
  have hbn := hx.b
  obtain ⟨na, ena⟩ : ∃ k : Nat, x.a = k := ⟨x.a.toNat, by omega⟩
  have HNA := Lib.hid ena
  have hnaN : na < p.nodes.length := by omega
  clear ena
  go_upto_region 8 with fail
  clear g0 g1 g2 g3 g4 g5 g6 x0 x1 x2 hq
  obtain ⟨g0, g1, g2, g3, g4, g5, g6⟩ := P0.out.pb.all
  have J3 := Lib.hid (H3.out.call P0.out.pb.below)
  have hh := held_any p h na l2 a2 c2 w3 P0.out.net NG.out hnaN J3.out.rd J3.out.in64 J3.out.len
  rw [← HNA.out] at hh
  have HHD := Lib.hid hh
  clear el hh hfr hab hbn hl9 hn2 hn7 hx
  go_wp2_with fail
  refine HHD.out.mono ?_
  rintro e w4 ⟨A4, c4, rfl, ho, hb⟩
  have TW := Lib.hid (twice_law NG.out HX.out (heldR_holds NG.out x.a l2).1 (heldR_holds NG.out x.a l2).2)
  have HCB : Hid ((heldR p x.a l2).kind ≠ 0 ∧ 0 ≤ (heldR p x.a l2).cost ∧ (heldR p x.a l2).cost ≤ 15) := Lib.hid (by
    obtain ⟨q1, q2⟩ := heldR_holds NG.out x.a l2
    refine ⟨q2, ?_⟩
    rcases q1.some q2 with ⟨_, _, q, _⟩ | ⟨_, _, q3, q4, _⟩ <;> omega)
  generalize heldR p x.a l2 = r at *
  have P4 := Lib.hid ((P0.out.call hb).push (RtR.of_own ho))
  clear g0 g1 g2 g3 g4 g5 g6 ho hb J3 HHD
  unfold rtV
  go_upto_region 9 with fail
  generalize (w4.alloc (.cells #[.int .i64 r.kind, .int .i64 r.cost, .slice A4 r.path.length c4] 24)) = v5 at *
  generalize w4.heap.size = b4 at *
  generalize hbk : overR p i x.a (overR p i x.b r) = back at *
  generalize hmd : overR p i x.b r = mid at *
  have HC : Hid (∀ wy, Below v5.heap.size v5 wy → (fun wy => wy.cell? ⟨bp, 0, none⟩ = some (.int .i64 p.proto) ∧ wy.cell? ⟨bp, 1, none⟩ = some (.int .i64 p.cap) ∧ wy.cell? ⟨bp, 2, none⟩ = some (.int .i64 p.k) ∧ wy.cell? ⟨bp, 3, none⟩ = some (.slice h.an p.nodes.length h.cn) ∧ wy.cell? ⟨bp, 4, none⟩ = some (.slice h.al p.links.length h.cl) ∧ wy.cell? ⟨bp, 5, none⟩ = some (.slice h.ad p.dests.length h.cd) ∧ wy.cell? ⟨bp, 6, none⟩ = some (.slice h.ac p.checks.length h.cc) ∧ wy.cell? ⟨b4, 0, none⟩ = some (.int .i64 r.kind) ∧ wy.cell? ⟨b4, 1, none⟩ = some (.int .i64 r.cost) ∧ wy.cell? ⟨b4, 2, none⟩ = some (.slice A4 r.path.length c4)) wy) := Lib.hid (fun wy hb => by
    have a := P4.out.call hb
    obtain ⟨q0, q1, q2, q3, q4, q5, q6⟩ := a.pb.all
    exact ⟨q0, q1, q2, q3, q4, q5, q6, (a.each (b4, (r, (A4, c4))) (by simp)).at_⟩)
  have CO1 := Lib.hid (fun (wy : World) (hb : Below v5.heap.size v5 wy) => (show Calls Tryz.prog 17 #[.agg #[.int .i64 p.proto, .int .i64 p.cap, .int .i64 p.k, .slice h.an p.nodes.length h.cn, .slice h.al p.links.length h.cl, .slice h.ad p.dests.length h.cd, .slice h.ac p.checks.length h.cc], .int .i64 (i : Int), .int .i64 x.b, .agg #[.int .i64 r.kind, .int .i64 r.cost, .slice A4 r.path.length c4]] wy fun e w' => ∃ A c, e = .returned (.agg #[.int .i64 mid.kind, .int .i64 mid.cost, .slice A mid.path.length c]) ∧ RtR w' w'.heap.size mid A c ∧ Below v5.heap.size v5 w' ∧ Below wy.heap.size wy w' from by
    have a := P4.out.call hb
    refine (overX_any p h i x.b r A4 c4 wy a.net GD.out (a.each (b4, (r, (A4, c4))) (by simp)).rt).mono fun e w' ⟨A, c, h1, h2, h3⟩ => ?_
    rw [hmd] at h1 h2
    exact ⟨A, c, h1, h2, since_trans hb h3, h3⟩))
  have CO2 := Lib.hid (fun (wy : World) (A : Option Addr) (c : Nat) (hb : Below v5.heap.size v5 wy) (hr : RtR wy wy.heap.size mid A c) => (show Calls Tryz.prog 17 #[.agg #[.int .i64 p.proto, .int .i64 p.cap, .int .i64 p.k, .slice h.an p.nodes.length h.cn, .slice h.al p.links.length h.cl, .slice h.ad p.dests.length h.cd, .slice h.ac p.checks.length h.cc], .int .i64 (i : Int), .int .i64 x.a, .agg #[.int .i64 mid.kind, .int .i64 mid.cost, .slice A mid.path.length c]] wy fun e w' => ∃ A' c', e = .returned (.agg #[.int .i64 back.kind, .int .i64 back.cost, .slice A' back.path.length c']) ∧ Below v5.heap.size v5 w' ∧ Below wy.heap.size wy w' from by
    have a := P4.out.call hb
    refine (overX_any p h i x.a mid A c wy a.net GD.out hr).mono fun e w' ⟨A', c', h1, h2, h3⟩ => ?_
    rw [hbk] at h1
    exact ⟨A', c', h1, since_trans hb h3, h3⟩))
  clear hbk hmd
  go_cut [13] (fun s wx => ∃ (b : Nat) (A' : Option Addr) (c' : Nat), s = .pointer (some ⟨b, 0, none⟩) ∧ wx.heap[b]? = some (.cells #[.int .i64 back.kind, .int .i64 back.cost, .slice A' back.path.length c'] 24 (0, 0)) ∧ Below v5.heap.size v5 wx)
  case first =>
    have hb0 : Below v5.heap.size v5 v5 := Below.refl _ _
    go_wp2_with fail
    refine wp_region_held_drew (S := (fun wy => wy.cell? ⟨bp, 0, none⟩ = some (.int .i64 p.proto) ∧ wy.cell? ⟨bp, 1, none⟩ = some (.int .i64 p.cap) ∧ wy.cell? ⟨bp, 2, none⟩ = some (.int .i64 p.k) ∧ wy.cell? ⟨bp, 3, none⟩ = some (.slice h.an p.nodes.length h.cn) ∧ wy.cell? ⟨bp, 4, none⟩ = some (.slice h.al p.links.length h.cl) ∧ wy.cell? ⟨bp, 5, none⟩ = some (.slice h.ad p.dests.length h.cd) ∧ wy.cell? ⟨bp, 6, none⟩ = some (.slice h.ac p.checks.length h.cc) ∧ wy.cell? ⟨b4, 0, none⟩ = some (.int .i64 r.kind) ∧ wy.cell? ⟨b4, 1, none⟩ = some (.int .i64 r.cost) ∧ wy.cell? ⟨b4, 2, none⟩ = some (.slice A4 r.path.length c4))) (by kernel_rfl) (HC.out _ (below_drew hb0)) (fun hHeld0 => ?_)
    refine take_list (i := 0) (v := ?_) rfl (by kernel_rfl) (by kernel_rfl) (by kernel_rfl) (fun _ _ _ h => h) (Or.inl ⟨by rfl, ?_⟩) (by assumption) ?_
    rotate_left
    · (intro w hSw; (try dsimp only at hSw); go_simp; try (with_reducible rfl))
    try simp only [Act.put, List.setIfInBounds_toArray, List.set_cons_zero, List.set_cons_succ]
    refine take_list (i := 1) (v := ?_) rfl (by kernel_rfl) (by kernel_rfl) (by kernel_rfl) (fun _ _ _ h => h) (Or.inl ⟨by rfl, ?_⟩) (by assumption) ?_
    rotate_left
    · (intro w hSw; (try dsimp only at hSw); go_simp; try (with_reducible rfl))
    try simp only [Act.put, List.setIfInBounds_toArray, List.set_cons_zero, List.set_cons_succ]
    refine take_list (i := 2) (v := ?_) rfl (by kernel_rfl) (by kernel_rfl) (by kernel_rfl) (fun _ _ _ h => h) (Or.inl ⟨by rfl, ?_⟩) (by assumption) ?_
    rotate_left
    · (intro w hSw; (try dsimp only at hSw); go_simp; try (with_reducible rfl))
    try simp only [Act.put, List.setIfInBounds_toArray, List.set_cons_zero, List.set_cons_succ]
    refine take_list (i := 3) (v := ?_) rfl (by kernel_rfl) (by kernel_rfl) (by kernel_rfl) (fun _ _ _ h => h) (Or.inl ⟨by rfl, ?_⟩) (by assumption) ?_
    rotate_left
    · (intro w hSw; (try dsimp only at hSw); go_simp; try (with_reducible rfl))
    try simp only [Act.put, List.setIfInBounds_toArray, List.set_cons_zero, List.set_cons_succ]
    refine take_list (i := 4) (v := ?_) rfl (by kernel_rfl) (by kernel_rfl) (by kernel_rfl) (fun _ _ _ h => h) (Or.inl ⟨by rfl, ?_⟩) (by assumption) ?_
    rotate_left
    · (intro w hSw; (try dsimp only at hSw); go_simp; try (with_reducible rfl))
    try simp only [Act.put, List.setIfInBounds_toArray, List.set_cons_zero, List.set_cons_succ]
    refine take_list (i := 5) (v := ?_) rfl (by kernel_rfl) (by kernel_rfl) (by kernel_rfl) (fun _ _ _ h => h) (Or.inl ⟨by rfl, ?_⟩) (by assumption) ?_
    rotate_left
    · (intro w hSw; (try dsimp only at hSw); go_simp; try (with_reducible rfl))
    try simp only [Act.put, List.setIfInBounds_toArray, List.set_cons_zero, List.set_cons_succ]
    refine take_list (i := 6) (v := ?_) rfl (by kernel_rfl) (by kernel_rfl) (by kernel_rfl) (fun _ _ _ h => h) (Or.inl ⟨by rfl, ?_⟩) (by assumption) ?_
    rotate_left
    · (intro w hSw; (try dsimp only at hSw); go_simp; try (with_reducible rfl))
    try simp only [Act.put, List.setIfInBounds_toArray, List.set_cons_zero, List.set_cons_succ]
    refine wpAnyH_ready (rs := [7, 9]) (by kernel_rfl) (by simp) ?_
    refine cons_list rfl (fun K hK => ?_) (cons_list rfl (fun K hK => ?_) AllReadyH.nil)
    ·
      go_simp
      (go_at_call 17; refine (CO1.out _ (by repeat (first | assumption | (refine below_drew ?_) | (refine since_alloc ?_ _) | (refine Below.setCell ?_ (by dsimp only; omega) _)))).mono ?_; rintro e wm ⟨Am, cm, rfl, hrm, hvm, hbm⟩; have hsm := hbm.size; have hsv := hvm.size)
      refine hK.out _ _ (HC.out _ (by repeat (first | assumption | (refine below_drew ?_) | (refine since_alloc ?_ _) | (refine Below.setCell ?_ (by dsimp only; omega) _)))) (fun hHeld1 => ?_)
      clear hK K hHeld0
      try simp only [Act.put, List.setIfInBounds_toArray, List.set_cons_zero, List.set_cons_succ]
      refine wpAnyH_ready (rs := [8, 9]) (by kernel_rfl) (by simp) ?_
      refine cons_list rfl (fun K hK => ?_) (cons_list rfl (fun K hK => ?_) AllReadyH.nil)
      ·
        go_simp
        (go_at_call 17; refine (CO2.out _ Am cm (by repeat (first | assumption | (refine below_drew ?_) | (refine since_alloc ?_ _) | (refine Below.setCell ?_ (by dsimp only; omega) _))) (by first | exact hrm | exact hrm.call ((Below.refl _ _).alloc (Nat.le_refl _) _))).mono ?_; rintro e wq ⟨A', c', rfl, hvq, hbq⟩; have hsq := hvq.size)
        refine hK.out _ _ (HC.out _ (by repeat (first | assumption | (refine below_drew ?_) | (refine since_alloc ?_ _) | (refine Below.setCell ?_ (by dsimp only; omega) _)))) (fun hHeld2 => ?_)
        clear hK K hHeld1
        try simp only [Act.put, List.setIfInBounds_toArray, List.set_cons_zero, List.set_cons_succ]
        refine wpAnyH_ready (rs := [9]) (by kernel_rfl) (by simp) ?_
        refine cons_list rfl (fun K hK => ?_) AllReadyH.nil
        go_simp
        refine hK.out _ _ (HC.out _ (by repeat (first | assumption | (refine below_drew ?_) | (refine since_alloc ?_ _) | (refine Below.setCell ?_ (by dsimp only; omega) _)))) (fun hHeld3 => ?_)
        clear hK K hHeld2
        try simp only [Act.put, List.setIfInBounds_toArray, List.set_cons_zero, List.set_cons_succ]
        refine wpAnyH_ready (rs := [10]) (by kernel_rfl) (by simp) ?_
        refine cons_list rfl (fun K hK => ?_) AllReadyH.nil
        (first | (have kz := new_kept hbq; have kr0 := cell_of_row wq _ 0 _ _ _ kz; have kr1 := cell_of_row wq _ 1 _ _ _ kz; have kr2 := cell_of_row wq _ 2 _ _ _ kz; have kf0 := frozen_of_row wq _ 0 _ _ kz; have kf1 := frozen_of_row wq _ 1 _ _ kz; have kf2 := frozen_of_row wq _ 2 _ _ kz) | (have kz : wq.heap[v5.heap.size]? = some (.cells #[.int .i64 0, .int .i64 0, .slice none 0 0] 24 (0, 0)) := (hbq.block _ (lt_heap (new_kept_d hbm))).trans (new_kept_d hbm); have kr0 := cell_of_row wq _ 0 _ _ _ kz; have kr1 := cell_of_row wq _ 1 _ _ _ kz; have kr2 := cell_of_row wq _ 2 _ _ _ kz; have kf0 := frozen_of_row wq _ 0 _ _ kz; have kf1 := frozen_of_row wq _ 1 _ _ kz; have kf2 := frozen_of_row wq _ 2 _ _ kz) | skip)
        go_simp
        refine hK.out _ _ (HC.out _ (by repeat (first | assumption | (refine below_drew ?_) | (refine since_alloc ?_ _) | (refine Below.setCell ?_ (by dsimp only; omega) _)))) (fun hHeld4 => ?_)
        clear hK K hHeld3
        try simp only [Act.put, List.setIfInBounds_toArray, List.set_cons_zero, List.set_cons_succ]
        refine wpAnyH_done (by kernel_rfl) ?_ _
        clear hHeld4
        go_wp2
        go_meet
        case rel => refine ⟨_, A', c', rfl, ?_, (by repeat (first | assumption | (refine below_drew ?_) | (refine since_alloc ?_ _) | (refine Below.setCell ?_ (by dsimp only; omega) _)))⟩ <;> first | exact box_set kz | exact heap_alloc_new _ _
      ·
        go_simp
        refine hK.out _ _ (HC.out _ (by repeat (first | assumption | (refine below_drew ?_) | (refine since_alloc ?_ _) | (refine Below.setCell ?_ (by dsimp only; omega) _)))) (fun hHeld2 => ?_)
        clear hK K hHeld1
        try simp only [Act.put, List.setIfInBounds_toArray, List.set_cons_zero, List.set_cons_succ]
        refine wpAnyH_ready (rs := [8]) (by kernel_rfl) (by simp) ?_
        refine cons_list rfl (fun K hK => ?_) AllReadyH.nil
        go_simp
        (go_at_call 17; refine (CO2.out _ Am cm (by repeat (first | assumption | (refine below_drew ?_) | (refine since_alloc ?_ _) | (refine Below.setCell ?_ (by dsimp only; omega) _))) (by first | exact hrm | exact hrm.call ((Below.refl _ _).alloc (Nat.le_refl _) _))).mono ?_; rintro e wq ⟨A', c', rfl, hvq, hbq⟩; have hsq := hvq.size)
        refine hK.out _ _ (HC.out _ (by repeat (first | assumption | (refine below_drew ?_) | (refine since_alloc ?_ _) | (refine Below.setCell ?_ (by dsimp only; omega) _)))) (fun hHeld3 => ?_)
        clear hK K hHeld2
        try simp only [Act.put, List.setIfInBounds_toArray, List.set_cons_zero, List.set_cons_succ]
        refine wpAnyH_ready (rs := [10]) (by kernel_rfl) (by simp) ?_
        refine cons_list rfl (fun K hK => ?_) AllReadyH.nil
        (first | (have kz := new_kept hbq; have kr0 := cell_of_row wq _ 0 _ _ _ kz; have kr1 := cell_of_row wq _ 1 _ _ _ kz; have kr2 := cell_of_row wq _ 2 _ _ _ kz; have kf0 := frozen_of_row wq _ 0 _ _ kz; have kf1 := frozen_of_row wq _ 1 _ _ kz; have kf2 := frozen_of_row wq _ 2 _ _ kz) | (have kz : wq.heap[v5.heap.size]? = some (.cells #[.int .i64 0, .int .i64 0, .slice none 0 0] 24 (0, 0)) := (hbq.block _ (lt_heap (new_kept_d hbm))).trans (new_kept_d hbm); have kr0 := cell_of_row wq _ 0 _ _ _ kz; have kr1 := cell_of_row wq _ 1 _ _ _ kz; have kr2 := cell_of_row wq _ 2 _ _ _ kz; have kf0 := frozen_of_row wq _ 0 _ _ kz; have kf1 := frozen_of_row wq _ 1 _ _ kz; have kf2 := frozen_of_row wq _ 2 _ _ kz) | skip)
        go_simp
        refine hK.out _ _ (HC.out _ (by repeat (first | assumption | (refine below_drew ?_) | (refine since_alloc ?_ _) | (refine Below.setCell ?_ (by dsimp only; omega) _)))) (fun hHeld4 => ?_)
        clear hK K hHeld3
        try simp only [Act.put, List.setIfInBounds_toArray, List.set_cons_zero, List.set_cons_succ]
        refine wpAnyH_done (by kernel_rfl) ?_ _
        clear hHeld4
        go_wp2
        go_meet
        case rel => refine ⟨_, A', c', rfl, ?_, (by repeat (first | assumption | (refine below_drew ?_) | (refine since_alloc ?_ _) | (refine Below.setCell ?_ (by dsimp only; omega) _)))⟩ <;> first | exact box_set kz | exact heap_alloc_new _ _
    ·
      go_simp
      refine hK.out _ _ (HC.out _ (by repeat (first | assumption | (refine below_drew ?_) | (refine since_alloc ?_ _) | (refine Below.setCell ?_ (by dsimp only; omega) _)))) (fun hHeld1 => ?_)
      clear hK K hHeld0
      try simp only [Act.put, List.setIfInBounds_toArray, List.set_cons_zero, List.set_cons_succ]
      refine wpAnyH_ready (rs := [7]) (by kernel_rfl) (by simp) ?_
      refine cons_list rfl (fun K hK => ?_) AllReadyH.nil
      go_simp
      (go_at_call 17; refine (CO1.out _ (by repeat (first | assumption | (refine below_drew ?_) | (refine since_alloc ?_ _) | (refine Below.setCell ?_ (by dsimp only; omega) _)))).mono ?_; rintro e wm ⟨Am, cm, rfl, hrm, hvm, hbm⟩; have hsm := hbm.size; have hsv := hvm.size)
      refine hK.out _ _ (HC.out _ (by repeat (first | assumption | (refine below_drew ?_) | (refine since_alloc ?_ _) | (refine Below.setCell ?_ (by dsimp only; omega) _)))) (fun hHeld2 => ?_)
      clear hK K hHeld1
      try simp only [Act.put, List.setIfInBounds_toArray, List.set_cons_zero, List.set_cons_succ]
      refine wpAnyH_ready (rs := [8]) (by kernel_rfl) (by simp) ?_
      refine cons_list rfl (fun K hK => ?_) AllReadyH.nil
      go_simp
      (go_at_call 17; refine (CO2.out _ Am cm (by repeat (first | assumption | (refine below_drew ?_) | (refine since_alloc ?_ _) | (refine Below.setCell ?_ (by dsimp only; omega) _))) (by first | exact hrm | exact hrm.call ((Below.refl _ _).alloc (Nat.le_refl _) _))).mono ?_; rintro e wq ⟨A', c', rfl, hvq, hbq⟩; have hsq := hvq.size)
      refine hK.out _ _ (HC.out _ (by repeat (first | assumption | (refine below_drew ?_) | (refine since_alloc ?_ _) | (refine Below.setCell ?_ (by dsimp only; omega) _)))) (fun hHeld3 => ?_)
      clear hK K hHeld2
      try simp only [Act.put, List.setIfInBounds_toArray, List.set_cons_zero, List.set_cons_succ]
      refine wpAnyH_ready (rs := [10]) (by kernel_rfl) (by simp) ?_
      refine cons_list rfl (fun K hK => ?_) AllReadyH.nil
      (first | (have kz := new_kept hbq; have kr0 := cell_of_row wq _ 0 _ _ _ kz; have kr1 := cell_of_row wq _ 1 _ _ _ kz; have kr2 := cell_of_row wq _ 2 _ _ _ kz; have kf0 := frozen_of_row wq _ 0 _ _ kz; have kf1 := frozen_of_row wq _ 1 _ _ kz; have kf2 := frozen_of_row wq _ 2 _ _ kz) | (have kz : wq.heap[v5.heap.size]? = some (.cells #[.int .i64 0, .int .i64 0, .slice none 0 0] 24 (0, 0)) := (hbq.block _ (lt_heap (new_kept_d hbm))).trans (new_kept_d hbm); have kr0 := cell_of_row wq _ 0 _ _ _ kz; have kr1 := cell_of_row wq _ 1 _ _ _ kz; have kr2 := cell_of_row wq _ 2 _ _ _ kz; have kf0 := frozen_of_row wq _ 0 _ _ kz; have kf1 := frozen_of_row wq _ 1 _ _ kz; have kf2 := frozen_of_row wq _ 2 _ _ kz) | skip)
      go_simp
      refine hK.out _ _ (HC.out _ (by repeat (first | assumption | (refine below_drew ?_) | (refine since_alloc ?_ _) | (refine Below.setCell ?_ (by dsimp only; omega) _)))) (fun hHeld4 => ?_)
      clear hK K hHeld3
      try simp only [Act.put, List.setIfInBounds_toArray, List.set_cons_zero, List.set_cons_succ]
      refine wpAnyH_done (by kernel_rfl) ?_ _
      clear hHeld4
      go_wp2
      go_meet
      case rel => refine ⟨_, A', c', rfl, ?_, (by repeat (first | assumption | (refine below_drew ?_) | (refine since_alloc ?_ _) | (refine Below.setCell ?_ (by dsimp only; omega) _)))⟩ <;> first | exact box_set kz | exact heap_alloc_new _ _
  case rest =>
  obtain ⟨b5, A5, c5, rfl, hbox, hvc⟩ := hcut
  have PC := Lib.hid (P4.out.call hvc)
  obtain ⟨bl2, ol2, el2, hbl2, z0, z1, z2⟩ := PC.out.net.links.link HX.out.at_
  have HS : Hid (∀ wy, Below wc.heap.size wc wy → (fun wy => wy.cell? ⟨bp, 0, none⟩ = some (.int .i64 p.proto) ∧ wy.cell? ⟨bp, 4, none⟩ = some (.slice (some ⟨bl2, ol2, none⟩) p.links.length h.cl) ∧ wy.cell? ⟨b4, 0, none⟩ = some (.int .i64 r.kind) ∧ wy.cell? ⟨b4, 1, none⟩ = some (.int .i64 r.cost) ∧ wy.cell? ⟨b4, 2, none⟩ = some (.slice A4 r.path.length c4) ∧ wy.cell? ⟨b5, 0, none⟩ = some (.int .i64 back.kind) ∧ wy.cell? ⟨b5, 1, none⟩ = some (.int .i64 back.cost) ∧ wy.cell? ⟨b5, 2, none⟩ = some (.slice A5 back.path.length c5) ∧ wy.cell? ⟨bl2, ol2 + i * 3, none⟩ = some (.int .i64 x.a) ∧ wy.cell? ⟨bl2, ol2 + i * 3 + 1, none⟩ = some (.int .i64 x.b) ∧ wy.cell? ⟨bl2, ol2 + i * 3 + 2, none⟩ = some (.int .i64 x.cost)) wy) := Lib.hid (fun wy hb => by
    have a := PC.out.call hb
    obtain ⟨q0, q1, q2, q3, q4, q5, q6⟩ := a.pb.all
    rw [el2] at q4
    have kb := box_call hbox hb
    exact ⟨q0, q4, (a.each (b4, (r, (A4, c4))) (by simp)).at_.1, (a.each (b4, (r, (A4, c4))) (by simp)).at_.2.1, (a.each (b4, (r, (A4, c4))) (by simp)).at_.2.2, cell_of_row wy _ 0 _ _ _ kb, cell_of_row wy _ 1 _ _ _ kb, cell_of_row wy _ 2 _ _ _ kb, (hb.cell (p := ⟨bl2, ol2 + i * 3, none⟩) hbl2).trans z0, (hb.cell (p := ⟨bl2, ol2 + i * 3 + 1, none⟩) hbl2).trans z1, (hb.cell (p := ⟨bl2, ol2 + i * 3 + 2, none⟩) hbl2).trans z2⟩)
  have HD : Hid (Below w.heap.size w wc.drew) := Lib.hid (PC.out.drew.pb.below)
  have HD2 : Hid (Below w.heap.size w wc.drew.drew) := Lib.hid (PC.out.drew.drew.pb.below)
  have hcc := HX.out.c
  have hrc := HCB.out.2
  have hi0' : (0 : Int) ≤ (i : Int) := by omega
  have hi1' : (i : Int) < (p.links.length : Int) := by omega
  clear hbox hvc z0 z1 z2 el2 hi0 hi1 P0 P4 CO1 CO2 HC
  by_cases h2 : p.proto = 2
  · have hq1 : (p.proto == 2) = true := by simp [h2]
    have hq2 : (back.kind == 0) = true := by simp [TW.out.1 (.inl h2)]
    clear h2
    obtain ⟨s0, s4, r0, r1, r2, k0, k1, k2, y0, y1, y2⟩ := HS.out _ (below_drew (Below.refl _ _))
    go_wp2_with fail
    refine wp_region_held_drew (S := (fun wy => wy.cell? ⟨bp, 0, none⟩ = some (.int .i64 p.proto) ∧ wy.cell? ⟨bp, 4, none⟩ = some (.slice (some ⟨bl2, ol2, none⟩) p.links.length h.cl) ∧ wy.cell? ⟨b4, 0, none⟩ = some (.int .i64 r.kind) ∧ wy.cell? ⟨b4, 1, none⟩ = some (.int .i64 r.cost) ∧ wy.cell? ⟨b4, 2, none⟩ = some (.slice A4 r.path.length c4) ∧ wy.cell? ⟨b5, 0, none⟩ = some (.int .i64 back.kind) ∧ wy.cell? ⟨b5, 1, none⟩ = some (.int .i64 back.cost) ∧ wy.cell? ⟨b5, 2, none⟩ = some (.slice A5 back.path.length c5) ∧ wy.cell? ⟨bl2, ol2 + i * 3, none⟩ = some (.int .i64 x.a) ∧ wy.cell? ⟨bl2, ol2 + i * 3 + 1, none⟩ = some (.int .i64 x.b) ∧ wy.cell? ⟨bl2, ol2 + i * 3 + 2, none⟩ = some (.int .i64 x.cost))) (by kernel_rfl) (HS.out _ (below_drew (Below.refl _ _))) (fun hHeld0 => ?_)
    refine take_list (i := 0) (v := ?_) rfl (by kernel_rfl) (by kernel_rfl) (by kernel_rfl) (fun _ _ _ h => h) (Or.inl ⟨by rfl, ?_⟩) (by assumption) ?_
    rotate_left
    · (intro w hSw; (try dsimp only at hSw); go_simp; try (with_reducible rfl))
    try simp only [Act.put, List.setIfInBounds_toArray, List.set_cons_zero, List.set_cons_succ]
    refine take_list (i := 1) (v := ?_) rfl (by kernel_rfl) (by kernel_rfl) (by kernel_rfl) (fun _ _ _ h => h) (Or.inl ⟨by rfl, ?_⟩) (by assumption) ?_
    rotate_left
    · (intro w hSw; (try dsimp only at hSw); go_simp; try (with_reducible rfl))
    try simp only [Act.put, List.setIfInBounds_toArray, List.set_cons_zero, List.set_cons_succ]
    refine take_list (i := 2) (v := ?_) rfl (by kernel_rfl) (by kernel_rfl) (by kernel_rfl) (fun _ _ _ h => h) (Or.inl ⟨by rfl, ?_⟩) (by assumption) ?_
    rotate_left
    · (intro w hSw; (try dsimp only at hSw); go_simp; try (with_reducible rfl))
    try simp only [Act.put, List.setIfInBounds_toArray, List.set_cons_zero, List.set_cons_succ]
    refine take_list (i := 3) (v := ?_) rfl (by kernel_rfl) (by kernel_rfl) (by kernel_rfl) (fun _ _ _ h => h) (Or.inl ⟨by rfl, ?_⟩) (by assumption) ?_
    rotate_left
    · (intro w hSw; (try dsimp only at hSw); go_simp; try (with_reducible rfl))
    try simp only [Act.put, List.setIfInBounds_toArray, List.set_cons_zero, List.set_cons_succ]
    refine take_list (i := 4) (v := undef) rfl (by kernel_rfl) (by kernel_rfl) (by kernel_rfl) (fun _ _ _ h => h) (Or.inr ⟨by rfl, rfl⟩) (by assumption) ?_
    try simp only [Act.put, List.setIfInBounds_toArray, List.set_cons_zero, List.set_cons_succ]
    refine take_list (i := 5) (v := undef) rfl (by kernel_rfl) (by kernel_rfl) (by kernel_rfl) (fun _ _ _ h => h) (Or.inr ⟨by rfl, rfl⟩) (by assumption) ?_
    try simp only [Act.put, List.setIfInBounds_toArray, List.set_cons_zero, List.set_cons_succ]
    refine take_list (i := 6) (v := undef) rfl (by kernel_rfl) (by kernel_rfl) (by kernel_rfl) (fun _ _ _ h => h) (Or.inr ⟨by rfl, rfl⟩) (by assumption) ?_
    try simp only [Act.put, List.setIfInBounds_toArray, List.set_cons_zero, List.set_cons_succ]
    refine take_list (i := 7) (v := undef) rfl (by kernel_rfl) (by kernel_rfl) (by kernel_rfl) (fun _ _ _ h => h) (Or.inr ⟨by rfl, rfl⟩) (by assumption) ?_
    try simp only [Act.put, List.setIfInBounds_toArray, List.set_cons_zero, List.set_cons_succ]
    refine take_list (i := 8) (v := undef) rfl (by kernel_rfl) (by kernel_rfl) (by kernel_rfl) (fun _ _ _ h => h) (Or.inr ⟨by rfl, rfl⟩) (by assumption) ?_
    try simp only [Act.put, List.setIfInBounds_toArray, List.set_cons_zero, List.set_cons_succ]
    refine take_list (i := 9) (v := undef) rfl (by kernel_rfl) (by kernel_rfl) (by kernel_rfl) (fun _ _ _ h => h) (Or.inr ⟨by rfl, rfl⟩) (by assumption) ?_
    try simp only [Act.put, List.setIfInBounds_toArray, List.set_cons_zero, List.set_cons_succ]
    refine take_list (i := 10) (v := undef) rfl (by kernel_rfl) (by kernel_rfl) (by kernel_rfl) (fun _ _ _ h => h) (Or.inr ⟨by rfl, rfl⟩) (by assumption) ?_
    try simp only [Act.put, List.setIfInBounds_toArray, List.set_cons_zero, List.set_cons_succ]
    refine take_list (i := 11) (v := undef) rfl (by kernel_rfl) (by kernel_rfl) (by kernel_rfl) (fun _ _ _ h => h) (Or.inr ⟨by rfl, rfl⟩) (by assumption) ?_
    try simp only [Act.put, List.setIfInBounds_toArray, List.set_cons_zero, List.set_cons_succ]
    refine take_list (i := 12) (v := undef) rfl (by kernel_rfl) (by kernel_rfl) (by kernel_rfl) (fun _ _ _ h => h) (Or.inr ⟨by rfl, rfl⟩) (by assumption) ?_
    try simp only [Act.put, List.setIfInBounds_toArray, List.set_cons_zero, List.set_cons_succ]
    refine take_list (i := 13) (v := undef) rfl (by kernel_rfl) (by kernel_rfl) (by kernel_rfl) (fun _ _ _ h => h) (Or.inr ⟨by rfl, rfl⟩) (by assumption) ?_
    try simp only [Act.put, List.setIfInBounds_toArray, List.set_cons_zero, List.set_cons_succ]
    refine take_list (i := 14) (v := undef) rfl (by kernel_rfl) (by kernel_rfl) (by kernel_rfl) (fun _ _ _ h => h) (Or.inr ⟨by rfl, rfl⟩) (by assumption) ?_
    try simp only [Act.put, List.setIfInBounds_toArray, List.set_cons_zero, List.set_cons_succ]
    refine take_list (i := 15) (v := ?_) rfl (by kernel_rfl) (by kernel_rfl) (by kernel_rfl) (fun _ _ _ h => h) (Or.inl ⟨by rfl, ?_⟩) (by assumption) ?_
    rotate_left
    · (intro w hSw; (try dsimp only at hSw); go_simp; try (with_reducible rfl))
    try simp only [Act.put, List.setIfInBounds_toArray, List.set_cons_zero, List.set_cons_succ]
    refine wpAnyH_done (by kernel_rfl) ?_ _
    clear hHeld0
    go_wp2
    go_ret
    exact ⟨rfl, HD.out⟩
  · have hq1 : (p.proto == 2) = false := by simp [h2]
    have hw1 : IntKind.i64.wrap (2 * x.cost) = 2 * x.cost := IntWalk.i64_in _ (by omega)
    have hw2 : IntKind.i64.wrap (r.cost + 2 * x.cost) = r.cost + 2 * x.cost := IntWalk.i64_in _ (by omega)
    by_cases h15 : 15 < r.cost + 2 * x.cost
    · have hq3 : decide (15 < r.cost + 2 * x.cost) = true := by simp [h15]
      have hq2 : (back.kind == 0) = true := by simp [TW.out.1 (.inr h15)]
      clear h2 h15 hcc hrc
      obtain ⟨s0, s4, r0, r1, r2, k0, k1, k2, y0, y1, y2⟩ := HS.out _ (below_drew (Below.refl _ _))
      go_wp2_with fail
      refine wp_region_held_drew (S := (fun wy => wy.cell? ⟨bp, 0, none⟩ = some (.int .i64 p.proto) ∧ wy.cell? ⟨bp, 4, none⟩ = some (.slice (some ⟨bl2, ol2, none⟩) p.links.length h.cl) ∧ wy.cell? ⟨b4, 0, none⟩ = some (.int .i64 r.kind) ∧ wy.cell? ⟨b4, 1, none⟩ = some (.int .i64 r.cost) ∧ wy.cell? ⟨b4, 2, none⟩ = some (.slice A4 r.path.length c4) ∧ wy.cell? ⟨b5, 0, none⟩ = some (.int .i64 back.kind) ∧ wy.cell? ⟨b5, 1, none⟩ = some (.int .i64 back.cost) ∧ wy.cell? ⟨b5, 2, none⟩ = some (.slice A5 back.path.length c5) ∧ wy.cell? ⟨bl2, ol2 + i * 3, none⟩ = some (.int .i64 x.a) ∧ wy.cell? ⟨bl2, ol2 + i * 3 + 1, none⟩ = some (.int .i64 x.b) ∧ wy.cell? ⟨bl2, ol2 + i * 3 + 2, none⟩ = some (.int .i64 x.cost))) (by kernel_rfl) (HS.out _ (below_drew (Below.refl _ _))) (fun hHeld0 => ?_)
      refine take_list (i := 0) (v := ?_) rfl (by kernel_rfl) (by kernel_rfl) (by kernel_rfl) (fun _ _ _ h => h) (Or.inl ⟨by rfl, ?_⟩) (by assumption) ?_
      rotate_left
      · (intro w hSw; (try dsimp only at hSw); go_simp; try (with_reducible rfl))
      try simp only [Act.put, List.setIfInBounds_toArray, List.set_cons_zero, List.set_cons_succ]
      refine take_list (i := 1) (v := ?_) rfl (by kernel_rfl) (by kernel_rfl) (by kernel_rfl) (fun _ _ _ h => h) (Or.inl ⟨by rfl, ?_⟩) (by assumption) ?_
      rotate_left
      · (intro w hSw; (try dsimp only at hSw); go_simp; try (with_reducible rfl))
      try simp only [Act.put, List.setIfInBounds_toArray, List.set_cons_zero, List.set_cons_succ]
      refine take_list (i := 2) (v := ?_) rfl (by kernel_rfl) (by kernel_rfl) (by kernel_rfl) (fun _ _ _ h => h) (Or.inl ⟨by rfl, ?_⟩) (by assumption) ?_
      rotate_left
      · (intro w hSw; (try dsimp only at hSw); go_simp; try (with_reducible rfl))
      try simp only [Act.put, List.setIfInBounds_toArray, List.set_cons_zero, List.set_cons_succ]
      refine take_list (i := 3) (v := ?_) rfl (by kernel_rfl) (by kernel_rfl) (by kernel_rfl) (fun _ _ _ h => h) (Or.inl ⟨by rfl, ?_⟩) (by assumption) ?_
      rotate_left
      · (intro w hSw; (try dsimp only at hSw); go_simp; try (with_reducible rfl))
      try simp only [Act.put, List.setIfInBounds_toArray, List.set_cons_zero, List.set_cons_succ]
      refine take_list (i := 4) (v := ?_) rfl (by kernel_rfl) (by kernel_rfl) (by kernel_rfl) (fun _ _ _ h => h) (Or.inl ⟨by rfl, ?_⟩) (by assumption) ?_
      rotate_left
      · (intro w hSw; (try dsimp only at hSw); go_simp; try (with_reducible rfl))
      try simp only [Act.put, List.setIfInBounds_toArray, List.set_cons_zero, List.set_cons_succ]
      refine take_list (i := 5) (v := ?_) rfl (by kernel_rfl) (by kernel_rfl) (by kernel_rfl) (fun _ _ _ h => h) (Or.inl ⟨by rfl, ?_⟩) (by assumption) ?_
      rotate_left
      · (intro w hSw; (try dsimp only at hSw); go_simp; try (with_reducible rfl))
      try simp only [Act.put, List.setIfInBounds_toArray, List.set_cons_zero, List.set_cons_succ]
      refine take_list (i := 6) (v := ?_) rfl (by kernel_rfl) (by kernel_rfl) (by kernel_rfl) (fun _ _ _ h => h) (Or.inl ⟨by rfl, ?_⟩) (by assumption) ?_
      rotate_left
      · (intro w hSw; (try dsimp only at hSw); go_simp; try (with_reducible rfl))
      try simp only [Act.put, List.setIfInBounds_toArray, List.set_cons_zero, List.set_cons_succ]
      refine take_list (i := 7) (v := ?_) rfl (by kernel_rfl) (by kernel_rfl) (by kernel_rfl) (fun _ _ _ h => h) (Or.inl ⟨by rfl, ?_⟩) (by assumption) ?_
      rotate_left
      · (intro w hSw; (try dsimp only at hSw); go_simp; try (with_reducible rfl))
      try simp only [Act.put, List.setIfInBounds_toArray, List.set_cons_zero, List.set_cons_succ]
      refine take_list (i := 8) (v := ?_) rfl (by kernel_rfl) (by kernel_rfl) (by kernel_rfl) (fun _ _ _ h => h) (Or.inl ⟨by rfl, ?_⟩) (by assumption) ?_
      rotate_left
      · (intro w hSw; (try dsimp only at hSw); go_simp; try (with_reducible rfl))
      try simp only [Act.put, List.setIfInBounds_toArray, List.set_cons_zero, List.set_cons_succ]
      refine take_list (i := 9) (v := ?_) rfl (by kernel_rfl) (by kernel_rfl) (by kernel_rfl) (fun _ _ _ h => h) (Or.inl ⟨by rfl, ?_⟩) (by assumption) ?_
      rotate_left
      · (intro w hSw; (try dsimp only at hSw); go_simp; try (with_reducible rfl))
      try simp only [Act.put, List.setIfInBounds_toArray, List.set_cons_zero, List.set_cons_succ]
      refine take_list (i := 10) (v := ?_) rfl (by kernel_rfl) (by kernel_rfl) (by kernel_rfl) (fun _ _ _ h => h) (Or.inl ⟨by rfl, ?_⟩) (by assumption) ?_
      rotate_left
      · (intro w hSw; (try dsimp only at hSw); go_simp; try (with_reducible rfl))
      try simp only [Act.put, List.setIfInBounds_toArray, List.set_cons_zero, List.set_cons_succ]
      refine take_list (i := 11) (v := ?_) rfl (by kernel_rfl) (by kernel_rfl) (by kernel_rfl) (fun _ _ _ h => h) (Or.inl ⟨by rfl, ?_⟩) (by assumption) ?_
      rotate_left
      · (intro w hSw; (try dsimp only at hSw); go_simp; try (with_reducible rfl))
      try simp only [Act.put, List.setIfInBounds_toArray, List.set_cons_zero, List.set_cons_succ]
      refine take_list (i := 12) (v := ?_) rfl (by kernel_rfl) (by kernel_rfl) (by kernel_rfl) (fun _ _ _ h => h) (Or.inl ⟨by rfl, ?_⟩) (by assumption) ?_
      rotate_left
      · (intro w hSw; (try dsimp only at hSw); go_simp; try (with_reducible rfl))
      try simp only [Act.put, List.setIfInBounds_toArray, List.set_cons_zero, List.set_cons_succ]
      refine take_list (i := 13) (v := ?_) rfl (by kernel_rfl) (by kernel_rfl) (by kernel_rfl) (fun _ _ _ h => h) (Or.inl ⟨by rfl, ?_⟩) (by assumption) ?_
      rotate_left
      · (intro w hSw; (try dsimp only at hSw); go_simp; try (with_reducible rfl))
      try simp only [Act.put, List.setIfInBounds_toArray, List.set_cons_zero, List.set_cons_succ]
      refine take_list (i := 14) (v := ?_) rfl (by kernel_rfl) (by kernel_rfl) (by kernel_rfl) (fun _ _ _ h => h) (Or.inl ⟨by rfl, ?_⟩) (by assumption) ?_
      rotate_left
      · (intro w hSw; (try dsimp only at hSw); go_simp; try (with_reducible rfl))
      try simp only [Act.put, List.setIfInBounds_toArray, List.set_cons_zero, List.set_cons_succ]
      refine take_list (i := 15) (v := ?_) rfl (by kernel_rfl) (by kernel_rfl) (by kernel_rfl) (fun _ _ _ h => h) (Or.inl ⟨by rfl, ?_⟩) (by assumption) ?_
      rotate_left
      · (intro w hSw; (try dsimp only at hSw); go_simp; try (with_reducible rfl))
      try simp only [Act.put, List.setIfInBounds_toArray, List.set_cons_zero, List.set_cons_succ]
      refine wpAnyH_done (by kernel_rfl) ?_ _
      clear hHeld0
      go_wp2
      go_ret
      exact ⟨rfl, HD.out⟩
    · have hq3 : decide (15 < r.cost + 2 * x.cost) = false := by simp; omega
      have hbk := TW.out.2 h2 (by omega)
      have hq4 : (back.kind == 1) = true := by rw [hbk]; rfl
      have hq5 : (back.cost == r.cost + 2 * x.cost) = true := by rw [hbk]; simp
      clear h2 h15 hcc hrc hbk
      obtain ⟨s0, s4, r0, r1, r2, k0, k1, k2, y0, y1, y2⟩ := HS.out _ (below_drew (Below.refl _ _))
      go_wp2_with fail
      refine wp_region_held_drew (S := (fun wy => wy.cell? ⟨bp, 0, none⟩ = some (.int .i64 p.proto) ∧ wy.cell? ⟨bp, 4, none⟩ = some (.slice (some ⟨bl2, ol2, none⟩) p.links.length h.cl) ∧ wy.cell? ⟨b4, 0, none⟩ = some (.int .i64 r.kind) ∧ wy.cell? ⟨b4, 1, none⟩ = some (.int .i64 r.cost) ∧ wy.cell? ⟨b4, 2, none⟩ = some (.slice A4 r.path.length c4) ∧ wy.cell? ⟨b5, 0, none⟩ = some (.int .i64 back.kind) ∧ wy.cell? ⟨b5, 1, none⟩ = some (.int .i64 back.cost) ∧ wy.cell? ⟨b5, 2, none⟩ = some (.slice A5 back.path.length c5) ∧ wy.cell? ⟨bl2, ol2 + i * 3, none⟩ = some (.int .i64 x.a) ∧ wy.cell? ⟨bl2, ol2 + i * 3 + 1, none⟩ = some (.int .i64 x.b) ∧ wy.cell? ⟨bl2, ol2 + i * 3 + 2, none⟩ = some (.int .i64 x.cost))) (by kernel_rfl) (HS.out _ (below_drew (Below.refl _ _))) (fun hHeld0 => ?_)
      refine take_list (i := 0) (v := ?_) rfl (by kernel_rfl) (by kernel_rfl) (by kernel_rfl) (fun _ _ _ h => h) (Or.inl ⟨by rfl, ?_⟩) (by assumption) ?_
      rotate_left
      · (intro w hSw; (try dsimp only at hSw); go_simp; try (with_reducible rfl))
      try simp only [Act.put, List.setIfInBounds_toArray, List.set_cons_zero, List.set_cons_succ]
      refine take_list (i := 1) (v := ?_) rfl (by kernel_rfl) (by kernel_rfl) (by kernel_rfl) (fun _ _ _ h => h) (Or.inl ⟨by rfl, ?_⟩) (by assumption) ?_
      rotate_left
      · (intro w hSw; (try dsimp only at hSw); go_simp; try (with_reducible rfl))
      try simp only [Act.put, List.setIfInBounds_toArray, List.set_cons_zero, List.set_cons_succ]
      refine take_list (i := 2) (v := ?_) rfl (by kernel_rfl) (by kernel_rfl) (by kernel_rfl) (fun _ _ _ h => h) (Or.inl ⟨by rfl, ?_⟩) (by assumption) ?_
      rotate_left
      · (intro w hSw; (try dsimp only at hSw); go_simp; try (with_reducible rfl))
      try simp only [Act.put, List.setIfInBounds_toArray, List.set_cons_zero, List.set_cons_succ]
      refine take_list (i := 3) (v := ?_) rfl (by kernel_rfl) (by kernel_rfl) (by kernel_rfl) (fun _ _ _ h => h) (Or.inl ⟨by rfl, ?_⟩) (by assumption) ?_
      rotate_left
      · (intro w hSw; (try dsimp only at hSw); go_simp; try (with_reducible rfl))
      try simp only [Act.put, List.setIfInBounds_toArray, List.set_cons_zero, List.set_cons_succ]
      refine take_list (i := 4) (v := ?_) rfl (by kernel_rfl) (by kernel_rfl) (by kernel_rfl) (fun _ _ _ h => h) (Or.inl ⟨by rfl, ?_⟩) (by assumption) ?_
      rotate_left
      · (intro w hSw; (try dsimp only at hSw); go_simp; try (with_reducible rfl))
      try simp only [Act.put, List.setIfInBounds_toArray, List.set_cons_zero, List.set_cons_succ]
      refine take_list (i := 5) (v := ?_) rfl (by kernel_rfl) (by kernel_rfl) (by kernel_rfl) (fun _ _ _ h => h) (Or.inl ⟨by rfl, ?_⟩) (by assumption) ?_
      rotate_left
      · (intro w hSw; (try dsimp only at hSw); go_simp; try (with_reducible rfl))
      try simp only [Act.put, List.setIfInBounds_toArray, List.set_cons_zero, List.set_cons_succ]
      refine take_list (i := 6) (v := ?_) rfl (by kernel_rfl) (by kernel_rfl) (by kernel_rfl) (fun _ _ _ h => h) (Or.inl ⟨by rfl, ?_⟩) (by assumption) ?_
      rotate_left
      · (intro w hSw; (try dsimp only at hSw); go_simp; try (with_reducible rfl))
      try simp only [Act.put, List.setIfInBounds_toArray, List.set_cons_zero, List.set_cons_succ]
      refine take_list (i := 7) (v := ?_) rfl (by kernel_rfl) (by kernel_rfl) (by kernel_rfl) (fun _ _ _ h => h) (Or.inl ⟨by rfl, ?_⟩) (by assumption) ?_
      rotate_left
      · (intro w hSw; (try dsimp only at hSw); go_simp; try (with_reducible rfl))
      try simp only [Act.put, List.setIfInBounds_toArray, List.set_cons_zero, List.set_cons_succ]
      refine take_list (i := 8) (v := ?_) rfl (by kernel_rfl) (by kernel_rfl) (by kernel_rfl) (fun _ _ _ h => h) (Or.inl ⟨by rfl, ?_⟩) (by assumption) ?_
      rotate_left
      · (intro w hSw; (try dsimp only at hSw); go_simp; try (with_reducible rfl))
      try simp only [Act.put, List.setIfInBounds_toArray, List.set_cons_zero, List.set_cons_succ]
      refine take_list (i := 9) (v := ?_) rfl (by kernel_rfl) (by kernel_rfl) (by kernel_rfl) (fun _ _ _ h => h) (Or.inl ⟨by rfl, ?_⟩) (by assumption) ?_
      rotate_left
      · (intro w hSw; (try dsimp only at hSw); go_simp; try (with_reducible rfl))
      try simp only [Act.put, List.setIfInBounds_toArray, List.set_cons_zero, List.set_cons_succ]
      refine take_list (i := 10) (v := ?_) rfl (by kernel_rfl) (by kernel_rfl) (by kernel_rfl) (fun _ _ _ h => h) (Or.inl ⟨by rfl, ?_⟩) (by assumption) ?_
      rotate_left
      · (intro w hSw; (try dsimp only at hSw); go_simp; try (with_reducible rfl))
      try simp only [Act.put, List.setIfInBounds_toArray, List.set_cons_zero, List.set_cons_succ]
      refine take_list (i := 11) (v := ?_) rfl (by kernel_rfl) (by kernel_rfl) (by kernel_rfl) (fun _ _ _ h => h) (Or.inl ⟨by rfl, ?_⟩) (by assumption) ?_
      rotate_left
      · (intro w hSw; (try dsimp only at hSw); go_simp; try (with_reducible rfl))
      try simp only [Act.put, List.setIfInBounds_toArray, List.set_cons_zero, List.set_cons_succ]
      refine take_list (i := 12) (v := ?_) rfl (by kernel_rfl) (by kernel_rfl) (by kernel_rfl) (fun _ _ _ h => h) (Or.inl ⟨by rfl, ?_⟩) (by assumption) ?_
      rotate_left
      · (intro w hSw; (try dsimp only at hSw); go_simp; try (with_reducible rfl))
      try simp only [Act.put, List.setIfInBounds_toArray, List.set_cons_zero, List.set_cons_succ]
      refine take_list (i := 13) (v := ?_) rfl (by kernel_rfl) (by kernel_rfl) (by kernel_rfl) (fun _ _ _ h => h) (Or.inl ⟨by rfl, ?_⟩) (by assumption) ?_
      rotate_left
      · (intro w hSw; (try dsimp only at hSw); go_simp; try (with_reducible rfl))
      try simp only [Act.put, List.setIfInBounds_toArray, List.set_cons_zero, List.set_cons_succ]
      refine take_list (i := 14) (v := ?_) rfl (by kernel_rfl) (by kernel_rfl) (by kernel_rfl) (fun _ _ _ h => h) (Or.inl ⟨by rfl, ?_⟩) (by assumption) ?_
      rotate_left
      · (intro w hSw; (try dsimp only at hSw); go_simp; try (with_reducible rfl))
      try simp only [Act.put, List.setIfInBounds_toArray, List.set_cons_zero, List.set_cons_succ]
      refine take_list (i := 15) (v := ?_) rfl (by kernel_rfl) (by kernel_rfl) (by kernel_rfl) (fun _ _ _ h => h) (Or.inl ⟨by rfl, ?_⟩) (by assumption) ?_
      rotate_left
      · (intro w hSw; (try dsimp only at hSw); go_simp; try (with_reducible rfl))
      try simp only [Act.put, List.setIfInBounds_toArray, List.set_cons_zero, List.set_cons_succ]
      refine wpAnyH_done (by kernel_rfl) ?_ _
      clear hHeld0
      go_upto_region 12 with fail
      refine wp_region_held_drew (S := (fun wy => wy.cell? ⟨bp, 0, none⟩ = some (.int .i64 p.proto) ∧ wy.cell? ⟨bp, 4, none⟩ = some (.slice (some ⟨bl2, ol2, none⟩) p.links.length h.cl) ∧ wy.cell? ⟨b4, 0, none⟩ = some (.int .i64 r.kind) ∧ wy.cell? ⟨b4, 1, none⟩ = some (.int .i64 r.cost) ∧ wy.cell? ⟨b4, 2, none⟩ = some (.slice A4 r.path.length c4) ∧ wy.cell? ⟨b5, 0, none⟩ = some (.int .i64 back.kind) ∧ wy.cell? ⟨b5, 1, none⟩ = some (.int .i64 back.cost) ∧ wy.cell? ⟨b5, 2, none⟩ = some (.slice A5 back.path.length c5) ∧ wy.cell? ⟨bl2, ol2 + i * 3, none⟩ = some (.int .i64 x.a) ∧ wy.cell? ⟨bl2, ol2 + i * 3 + 1, none⟩ = some (.int .i64 x.b) ∧ wy.cell? ⟨bl2, ol2 + i * 3 + 2, none⟩ = some (.int .i64 x.cost))) (by kernel_rfl) (HS.out _ (below_drew (below_drew (Below.refl _ _)))) (fun hHeld0 => ?_)
      refine take_list (i := 0) (v := ?_) rfl (by kernel_rfl) (by kernel_rfl) (by kernel_rfl) (fun _ _ _ h => h) (Or.inl ⟨by rfl, ?_⟩) (by assumption) ?_
      rotate_left
      · (intro w hSw; (try dsimp only at hSw); go_simp; try (with_reducible rfl))
      try simp only [Act.put, List.setIfInBounds_toArray, List.set_cons_zero, List.set_cons_succ]
      refine take_list (i := 1) (v := ?_) rfl (by kernel_rfl) (by kernel_rfl) (by kernel_rfl) (fun _ _ _ h => h) (Or.inl ⟨by rfl, ?_⟩) (by assumption) ?_
      rotate_left
      · (intro w hSw; (try dsimp only at hSw); go_simp; try (with_reducible rfl))
      try simp only [Act.put, List.setIfInBounds_toArray, List.set_cons_zero, List.set_cons_succ]
      refine take_list (i := 2) (v := ?_) rfl (by kernel_rfl) (by kernel_rfl) (by kernel_rfl) (fun _ _ _ h => h) (Or.inl ⟨by rfl, ?_⟩) (by assumption) ?_
      rotate_left
      · (intro w hSw; (try dsimp only at hSw); go_simp; try (with_reducible rfl))
      try simp only [Act.put, List.setIfInBounds_toArray, List.set_cons_zero, List.set_cons_succ]
      refine take_list (i := 3) (v := ?_) rfl (by kernel_rfl) (by kernel_rfl) (by kernel_rfl) (fun _ _ _ h => h) (Or.inl ⟨by rfl, ?_⟩) (by assumption) ?_
      rotate_left
      · (intro w hSw; (try dsimp only at hSw); go_simp; try (with_reducible rfl))
      try simp only [Act.put, List.setIfInBounds_toArray, List.set_cons_zero, List.set_cons_succ]
      refine take_list (i := 4) (v := ?_) rfl (by kernel_rfl) (by kernel_rfl) (by kernel_rfl) (fun _ _ _ h => h) (Or.inl ⟨by rfl, ?_⟩) (by assumption) ?_
      rotate_left
      · (intro w hSw; (try dsimp only at hSw); go_simp; try (with_reducible rfl))
      try simp only [Act.put, List.setIfInBounds_toArray, List.set_cons_zero, List.set_cons_succ]
      refine take_list (i := 5) (v := ?_) rfl (by kernel_rfl) (by kernel_rfl) (by kernel_rfl) (fun _ _ _ h => h) (Or.inl ⟨by rfl, ?_⟩) (by assumption) ?_
      rotate_left
      · (intro w hSw; (try dsimp only at hSw); go_simp; try (with_reducible rfl))
      try simp only [Act.put, List.setIfInBounds_toArray, List.set_cons_zero, List.set_cons_succ]
      refine take_list (i := 6) (v := ?_) rfl (by kernel_rfl) (by kernel_rfl) (by kernel_rfl) (fun _ _ _ h => h) (Or.inl ⟨by rfl, ?_⟩) (by assumption) ?_
      rotate_left
      · (intro w hSw; (try dsimp only at hSw); go_simp; try (with_reducible rfl))
      try simp only [Act.put, List.setIfInBounds_toArray, List.set_cons_zero, List.set_cons_succ]
      refine take_list (i := 7) (v := ?_) rfl (by kernel_rfl) (by kernel_rfl) (by kernel_rfl) (fun _ _ _ h => h) (Or.inl ⟨by rfl, ?_⟩) (by assumption) ?_
      rotate_left
      · (intro w hSw; (try dsimp only at hSw); go_simp; try (with_reducible rfl))
      try simp only [Act.put, List.setIfInBounds_toArray, List.set_cons_zero, List.set_cons_succ]
      refine take_list (i := 8) (v := ?_) rfl (by kernel_rfl) (by kernel_rfl) (by kernel_rfl) (fun _ _ _ h => h) (Or.inl ⟨by rfl, ?_⟩) (by assumption) ?_
      rotate_left
      · (intro w hSw; (try dsimp only at hSw); go_simp; try (with_reducible rfl))
      try simp only [Act.put, List.setIfInBounds_toArray, List.set_cons_zero, List.set_cons_succ]
      refine take_list (i := 9) (v := ?_) rfl (by kernel_rfl) (by kernel_rfl) (by kernel_rfl) (fun _ _ _ h => h) (Or.inl ⟨by rfl, ?_⟩) (by assumption) ?_
      rotate_left
      · (intro w hSw; (try dsimp only at hSw); go_simp; try (with_reducible rfl))
      try simp only [Act.put, List.setIfInBounds_toArray, List.set_cons_zero, List.set_cons_succ]
      refine take_list (i := 10) (v := ?_) rfl (by kernel_rfl) (by kernel_rfl) (by kernel_rfl) (fun _ _ _ h => h) (Or.inl ⟨by rfl, ?_⟩) (by assumption) ?_
      rotate_left
      · (intro w hSw; (try dsimp only at hSw); go_simp; try (with_reducible rfl))
      try simp only [Act.put, List.setIfInBounds_toArray, List.set_cons_zero, List.set_cons_succ]
      refine take_list (i := 11) (v := ?_) rfl (by kernel_rfl) (by kernel_rfl) (by kernel_rfl) (fun _ _ _ h => h) (Or.inl ⟨by rfl, ?_⟩) (by assumption) ?_
      rotate_left
      · (intro w hSw; (try dsimp only at hSw); go_simp; try (with_reducible rfl))
      try simp only [Act.put, List.setIfInBounds_toArray, List.set_cons_zero, List.set_cons_succ]
      refine take_list (i := 12) (v := ?_) rfl (by kernel_rfl) (by kernel_rfl) (by kernel_rfl) (fun _ _ _ h => h) (Or.inl ⟨by rfl, ?_⟩) (by assumption) ?_
      rotate_left
      · (intro w hSw; (try dsimp only at hSw); go_simp; try (with_reducible rfl))
      try simp only [Act.put, List.setIfInBounds_toArray, List.set_cons_zero, List.set_cons_succ]
      refine take_list (i := 13) (v := ?_) rfl (by kernel_rfl) (by kernel_rfl) (by kernel_rfl) (fun _ _ _ h => h) (Or.inl ⟨by rfl, ?_⟩) (by assumption) ?_
      rotate_left
      · (intro w hSw; (try dsimp only at hSw); go_simp; try (with_reducible rfl))
      try simp only [Act.put, List.setIfInBounds_toArray, List.set_cons_zero, List.set_cons_succ]
      refine take_list (i := 14) (v := ?_) rfl (by kernel_rfl) (by kernel_rfl) (by kernel_rfl) (fun _ _ _ h => h) (Or.inl ⟨by rfl, ?_⟩) (by assumption) ?_
      rotate_left
      · (intro w hSw; (try dsimp only at hSw); go_simp; try (with_reducible rfl))
      try simp only [Act.put, List.setIfInBounds_toArray, List.set_cons_zero, List.set_cons_succ]
      refine take_list (i := 15) (v := ?_) rfl (by kernel_rfl) (by kernel_rfl) (by kernel_rfl) (fun _ _ _ h => h) (Or.inl ⟨by rfl, ?_⟩) (by assumption) ?_
      rotate_left
      · (intro w hSw; (try dsimp only at hSw); go_simp; try (with_reducible rfl))
      try simp only [Act.put, List.setIfInBounds_toArray, List.set_cons_zero, List.set_cons_succ]
      refine take_list (i := 16) (v := ?_) rfl (by kernel_rfl) (by kernel_rfl) (by kernel_rfl) (fun _ _ _ h => h) (Or.inl ⟨by rfl, ?_⟩) (by assumption) ?_
      rotate_left
      · (intro w hSw; (try dsimp only at hSw); go_simp; try (with_reducible rfl))
      try simp only [Act.put, List.setIfInBounds_toArray, List.set_cons_zero, List.set_cons_succ]
      refine take_list (i := 17) (v := ?_) rfl (by kernel_rfl) (by kernel_rfl) (by kernel_rfl) (fun _ _ _ h => h) (Or.inl ⟨by rfl, ?_⟩) (by assumption) ?_
      rotate_left
      · (intro w hSw; (try dsimp only at hSw); go_simp; try (with_reducible rfl))
      try simp only [Act.put, List.setIfInBounds_toArray, List.set_cons_zero, List.set_cons_succ]
      refine take_list (i := 18) (v := ?_) rfl (by kernel_rfl) (by kernel_rfl) (by kernel_rfl) (fun _ _ _ h => h) (Or.inl ⟨by rfl, ?_⟩) (by assumption) ?_
      rotate_left
      · (intro w hSw; (try dsimp only at hSw); go_simp; try (with_reducible rfl))
      try simp only [Act.put, List.setIfInBounds_toArray, List.set_cons_zero, List.set_cons_succ]
      refine take_list (i := 19) (v := ?_) rfl (by kernel_rfl) (by kernel_rfl) (by kernel_rfl) (fun _ _ _ h => h) (Or.inl ⟨by rfl, ?_⟩) (by assumption) ?_
      rotate_left
      · (intro w hSw; (try dsimp only at hSw); go_simp; try (with_reducible rfl))
      try simp only [Act.put, List.setIfInBounds_toArray, List.set_cons_zero, List.set_cons_succ]
      refine take_list (i := 20) (v := ?_) rfl (by kernel_rfl) (by kernel_rfl) (by kernel_rfl) (fun _ _ _ h => h) (Or.inl ⟨by rfl, ?_⟩) (by assumption) ?_
      rotate_left
      · (intro w hSw; (try dsimp only at hSw); go_simp; try (with_reducible rfl))
      try simp only [Act.put, List.setIfInBounds_toArray, List.set_cons_zero, List.set_cons_succ]
      refine take_list (i := 21) (v := ?_) rfl (by kernel_rfl) (by kernel_rfl) (by kernel_rfl) (fun _ _ _ h => h) (Or.inl ⟨by rfl, ?_⟩) (by assumption) ?_
      rotate_left
      · (intro w hSw; (try dsimp only at hSw); go_simp; try (with_reducible rfl))
      try simp only [Act.put, List.setIfInBounds_toArray, List.set_cons_zero, List.set_cons_succ]
      refine wpAnyH_done (by kernel_rfl) ?_ _
      clear hHeld0
      go_wp2
      go_ret
      exact ⟨rfl, HD2.out⟩
end Go.Proofs.YtiehlnokidhgfaaGreat

/- The walk of backstaylaw07.CarryKeeps. -/
import Derived.Test.YtiehlnokidhgfaaGreatAwake7
import Derived.Test.YtiehlnokidhgfaaGreatLaw7
import Derived.Test.YtiehlnokidhgfaaGreatNetB
namespace Go.Proofs.YtiehlnokidhgfaaGreat
set_option linter.unusedSimpArgs false
set_option linter.unusedVariables false
open Go.RowKit

attribute [local go_sem ↓] Go.wp_at_zero Go.wp_at_succ
set_option maxRecDepth 100000 in
set_option maxHeartbeats 8000000 in
theorem carryKeeps_walk (a0 a3 a4 : Option Addr) (c0 c3 c4 : Nat) (l0 l3 l4 : List Int) (n1 : Int) (b2 : Bool) (w : World) (h0 : InRow w a0 c0 l0) (h3 : InRow w a3 c3 l3) (h4 : InRow w a4 c4 l4) (k1 : In64 n1) :
    Calls Tryz.prog 6 #[.slice a0 l0.length c0, .int .i64 n1, .bool b2, .slice a3 l3.length c3, .slice a4 l4.length c4] w fun e w' => e = .returned (.bool true) ∧ Below w.heap.size w w' := by
  have I1 := Lib.hid k1
  have H3 := Lib.hid h3
  have H4 := Lib.hid h4
  clear k1 h3 h4
  have H0 := Lib.hid h0
  clear h0
  go_enter Tryz.func6, Tryz.ntmps6
  go_wp2_with fail
  refine (awake7 _).mono ?_
  rintro e w1 ⟨rfl, hb1⟩
  have J0 := Lib.hid (H0.out.call hb1)
  have B1 := Lib.hid hb1
  clear hb1
  go_wp2_with fail
  refine (net_any _ _ l0 c0 J0.out.len J0.out.le J0.out.rd J0.out.in64).mono ?_
  rintro e w2 ⟨p, h, rfl, hok, hown, hb⟩
  have B2 := Lib.hid (since_trans B1.out hb)
  have OK := Lib.hid hok
  have GD := Lib.hid hok.good
  have NG := Lib.hid hok.good.netG
  have P0 : Hid (NW w (w2.alloc (.cells #[.int .i64 p.proto, .int .i64 p.cap, .int .i64 p.k, .slice h.an p.nodes.length h.cn, .slice h.al p.links.length h.cl, .slice h.ad p.dests.length h.cd, .slice h.ac p.checks.length h.cc] 31)) w2.heap.size p h []) := Lib.hid ⟨PB.begin B2.out hown.net, by intro z hz; cases hz⟩
  have hn2 := hok.n.1
  have hn7 := hok.n.2
  have hl9 := hok.l9
  clear hb hown hok J0
  unfold netV netVal
  go_upto_region 3 with fail
  generalize (w2.alloc (.cells #[.int .i64 p.proto, .int .i64 p.cap, .int .i64 p.k, .slice h.an p.nodes.length h.cn, .slice h.al p.links.length h.cl, .slice h.ad p.dests.length h.cd, .slice h.ac p.checks.length h.cc] 31)) = w3 at *
  generalize w2.heap.size = bp at *
  clear B1 B2
  obtain ⟨g0, g1, g2, g3, g4, g5, g6⟩ := P0.out.pb.all
  by_cases hL : p.links.length = 0
  · have hq : ((p.links.length : Int) == 0) = true := by simp [hL]
    clear hL
    go_wp2
    go_ret
    exact ⟨rfl, P0.out.pb.below⟩
  have hq : ((p.links.length : Int) == 0) = false := by simp [hL]
  have hLp : 0 < (p.links.length : Int) := by omega
  clear hL
  go_wp2_with fail
  refine (pick7_any n1 p.links.length _ I1.out hLp (by omega)).mono ?_
  rintro e w' ⟨rfl, rfl⟩
  have hi := pickV_in (c := n1) (n := p.links.length) hLp
  generalize pickV n1 p.links.length = i at *
  obtain ⟨i, rfl⟩ : ∃ k : Nat, i = k := ⟨i.toNat, by omega⟩
  obtain ⟨hi0, hi1⟩ := hi
  obtain ⟨x, hx⟩ := NG.out.link (k := i) (by omega)
  obtain ⟨bl, ol, el, hbl, x0, x1, x2⟩ := P0.out.net.links.link hx.at_
  have HE := Lib.hid el
  have HX := Lib.hid hx
  rw [el] at g4
  clear hLp
  have hfr := hx.a
  have hab := hx.ab
  have hbn := hx.b
  have hcost := hx.c
  have HOT : Hid (othL p.links i (if b2 then x.a else x.b) = (if b2 then x.b else x.a)) := Lib.hid (by cases b2 <;> simp [hx.othA, hx.othB])
  have HCO := Lib.hid hx.cost
  go_upto_if 45 with fail
  go_cut [14, 15] (fun s1 s2 wx => s1 = .int .i64 (if b2 then x.b else x.a) ∧ s2 = .int .i64 (if b2 then x.a else x.b) ∧ wx = w3)
  case first =>
    cases b2 with
    | true =>
      go_wp2_with fail
      go_meet
      case rel => exact ⟨rfl, rfl, rfl⟩
    | false =>
      go_wp2_with fail
      go_meet
      case rel => exact ⟨rfl, rfl, rfl⟩
  case rest =>
  obtain ⟨rfl, rfl, hwc⟩ := hcut
  subst hwc
  have hfrI : 0 ≤ (if b2 then x.b else x.a) ∧ (if b2 then x.b else x.a) < p.nodes.length := by cases b2 <;> simp <;> omega
  have htoI : 0 ≤ (if b2 then x.a else x.b) ∧ (if b2 then x.a else x.b) < p.nodes.length := by cases b2 <;> simp <;> omega
  generalize (if b2 then x.b else x.a) = from_ at *
  generalize (if b2 then x.a else x.b) = to_ at *
  obtain ⟨from_, rfl⟩ : ∃ k : Nat, from_ = k := ⟨from_.toNat, by omega⟩
  obtain ⟨to_, rfl⟩ : ∃ k : Nat, to_ = k := ⟨to_.toNat, by omega⟩
  obtain ⟨hf0, hf1⟩ := hfrI
  obtain ⟨ht0, ht1⟩ := htoI
  have J3 := Lib.hid (H3.out.call P0.out.pb.below)
  have HXC : Hid (∀ wy, Below wc.heap.size wc wy → wy.cell? ⟨bl, ol + i * 3 + 2, none⟩ = some (.int .i64 x.cost)) := Lib.hid (fun wy hb => (hb.cell (p := ⟨bl, ol + i * 3 + 2, none⟩) hbl).trans x2)
  clear hfr hab hbn hl9 x0 x1 x2 hn2 hn7 hq g0 g1 g2 g3 g4 g5 g6 el
  obtain ⟨g0, g1, g2, g3, g4, g5, g6⟩ := P0.out.pb.all
  go_wp2_with fail
  refine (held_any p h from_ l3 a3 c3 _ P0.out.net NG.out (by omega) J3.out.rd J3.out.in64 J3.out.len).mono ?_
  rintro e w4 ⟨A4, d4, rfl, ho, hb⟩
  have HA := Lib.hid (heldR_holds NG.out (from_ : Int) l3).1
  generalize heldR p from_ l3 = ra at *
  have P4 := Lib.hid ((P0.out.call hb).push (RtR.of_own ho))
  clear g0 g1 g2 g3 g4 g5 g6 ho hb J3
  obtain ⟨g0, g1, g2, g3, g4, g5, g6⟩ := P4.out.pb.all
  have J4 := Lib.hid (H4.out.call P4.out.pb.below)
  unfold rtV
  go_upto_region 11 with fail
  generalize (w4.alloc (.cells #[.int .i64 ra.kind, .int .i64 ra.cost, .slice A4 ra.path.length d4] 24)) = v4 at *
  generalize w4.heap.size = b4 at *
  go_wp2_with fail
  refine (held_any p h from_ l4 a4 c4 _ P4.out.net NG.out (by omega) J4.out.rd J4.out.in64 J4.out.len).mono ?_
  rintro e w5 ⟨A5, d5, rfl, ho, hb⟩
  have HB := Lib.hid (heldR_holds NG.out (from_ : Int) l4).1
  generalize heldR p from_ l4 = rb at *
  have P5 := Lib.hid ((P4.out.call hb).push (RtR.of_own ho))
  clear g0 g1 g2 g3 g4 g5 g6 ho hb J4 P4
  obtain ⟨g0, g1, g2, g3, g4, g5, g6⟩ := P5.out.pb.all
  unfold rtV
  go_upto_region 12 with fail
  generalize (w5.alloc (.cells #[.int .i64 rb.kind, .int .i64 rb.cost, .slice A5 rb.path.length d5] 24)) = v5 at *
  generalize w5.heap.size = b5 at *
  have XA5 := Lib.hid (P5.out.each (b4, (ra, (A4, d4))) (by simp))
  obtain ⟨r0, r1, r2⟩ := XA5.out.at_
  go_wp2_with fail
  refine (overX_any p h i to_ ra A4 d4 _ P5.out.net GD.out XA5.out.rt).mono ?_
  rintro e w6 ⟨A6, d6, rfl, hr, hb⟩
  have HKE := Lib.hid (fun h1 h2 => over_keeps (k := (i : Int)) (n := (to_ : Int)) (a := ra) (b := rb) NG.out h1 h2)
  have HCM := Lib.hid (fun h2 h1 h => over_comes (k := (i : Int)) (n := (to_ : Int)) (a := ra) (b := rb) NG.out h2 (by rw [HOT.out]; exact HA.out) h1 h)
  have HSX := Lib.hid (fun h => (over_some (k := (i : Int)) (n := (to_ : Int)) (r := ra) NG.out h).2.1)
  generalize overR p i to_ ra = x_ at *
  have P6 := Lib.hid ((P5.out.call hb).push hr)
  clear g0 g1 g2 g3 g4 g5 g6 r0 r1 r2 hb hr XA5 P5
  obtain ⟨g0, g1, g2, g3, g4, g5, g6⟩ := P6.out.pb.all
  unfold rtV
  go_upto_region 13 with fail
  generalize (w6.alloc (.cells #[.int .i64 x_.kind, .int .i64 x_.cost, .slice A6 x_.path.length d6] 24)) = v6 at *
  generalize w6.heap.size = b6 at *
  have XB6 := Lib.hid (P6.out.each (b5, (rb, (A5, d5))) (by simp))
  obtain ⟨r0, r1, r2⟩ := XB6.out.at_
  go_wp2_with fail
  refine (overX_any p h i to_ rb A5 d5 _ P6.out.net GD.out XB6.out.rt).mono ?_
  rintro e w7 ⟨A7, d7, rfl, hr, hb⟩
  generalize overR p i to_ rb = y_ at *
  have P7 := Lib.hid ((P6.out.call hb).push hr)
  clear g0 g1 g2 g3 g4 g5 g6 r0 r1 r2 hb hr XB6 P6
  unfold rtV
  go_upto_region 14 with fail
  generalize (w7.alloc (.cells #[.int .i64 y_.kind, .int .i64 y_.cost, .slice A7 y_.path.length d7] 24)) = v7 at *
  generalize w7.heap.size = b7 at *
  generalize hLL : ([(b7, (y_, (A7, d7))), (b6, (x_, (A6, d6))), (b5, (rb, (A5, d5))), (b4, (ra, (A4, d4)))] : List (Nat × RtZ)) = LL at *
  have HC : Hid (∀ wy, NW w wy bp p h LL → wy.cell? ⟨bp, 0, none⟩ = some (.int .i64 p.proto) ∧ wy.cell? ⟨bp, 1, none⟩ = some (.int .i64 p.cap) ∧ wy.cell? ⟨bp, 2, none⟩ = some (.int .i64 p.k) ∧ wy.cell? ⟨bp, 3, none⟩ = some (.slice h.an p.nodes.length h.cn) ∧ wy.cell? ⟨bp, 4, none⟩ = some (.slice h.al p.links.length h.cl) ∧ wy.cell? ⟨bp, 5, none⟩ = some (.slice h.ad p.dests.length h.cd) ∧ wy.cell? ⟨bp, 6, none⟩ = some (.slice h.ac p.checks.length h.cc) ∧ wy.cell? ⟨b4, 0, none⟩ = some (.int .i64 ra.kind) ∧ wy.cell? ⟨b4, 1, none⟩ = some (.int .i64 ra.cost) ∧ wy.cell? ⟨b4, 2, none⟩ = some (.slice A4 ra.path.length d4) ∧ wy.cell? ⟨b5, 0, none⟩ = some (.int .i64 rb.kind) ∧ wy.cell? ⟨b5, 1, none⟩ = some (.int .i64 rb.cost) ∧ wy.cell? ⟨b5, 2, none⟩ = some (.slice A5 rb.path.length d5) ∧ wy.cell? ⟨b6, 0, none⟩ = some (.int .i64 x_.kind) ∧ wy.cell? ⟨b6, 1, none⟩ = some (.int .i64 x_.cost) ∧ wy.cell? ⟨b6, 2, none⟩ = some (.slice A6 x_.path.length d6) ∧ wy.cell? ⟨b7, 0, none⟩ = some (.int .i64 y_.kind) ∧ wy.cell? ⟨b7, 1, none⟩ = some (.int .i64 y_.cost) ∧ wy.cell? ⟨b7, 2, none⟩ = some (.slice A7 y_.path.length d7)) := Lib.hid (fun wy a => by
    subst hLL
    obtain ⟨q0, q1, q2, q3, q4, q5, q6⟩ := a.pb.all
    have k4 := (a.each (b4, (ra, (A4, d4))) (by simp)).at_
    have k5 := (a.each (b5, (rb, (A5, d5))) (by simp)).at_
    have k6 := (a.each (b6, (x_, (A6, d6))) (by simp)).at_
    have k7 := (a.each (b7, (y_, (A7, d7))) (by simp)).at_
    exact ⟨q0, q1, q2, q3, q4, q5, q6, k4.1, k4.2.1, k4.2.2, k5.1, k5.2.1, k5.2.2, k6.1, k6.2.1, k6.2.2, k7⟩)
  have CAB := Lib.hid (fun (wy : World) (a : NW w wy bp p h LL) => (show Calls Tryz.prog 23 #[.agg #[.int .i64 ra.kind, .int .i64 ra.cost, .slice A4 ra.path.length d4], .agg #[.int .i64 rb.kind, .int .i64 rb.cost, .slice A5 rb.path.length d5]] wy fun e w' => e = .returned (.bool (betterB ra rb)) ∧ NW w w' bp p h LL from (better_rt ra rb A4 A5 d4 d5 wy (a.each (b4, (ra, (A4, d4))) (by subst hLL; simp)).rt (a.each (b5, (rb, (A5, d5))) (by subst hLL; simp)).rt).mono fun e w' ⟨h1, h2⟩ => ⟨h1, a.call h2⟩))
  have CXY := Lib.hid (fun (wy : World) (a : NW w wy bp p h LL) => (show Calls Tryz.prog 23 #[.agg #[.int .i64 x_.kind, .int .i64 x_.cost, .slice A6 x_.path.length d6], .agg #[.int .i64 y_.kind, .int .i64 y_.cost, .slice A7 y_.path.length d7]] wy fun e w' => e = .returned (.bool (betterB x_ y_)) ∧ NW w w' bp p h LL from (better_rt x_ y_ A6 A7 d6 d7 wy (a.each (b6, (x_, (A6, d6))) (by subst hLL; simp)).rt (a.each (b7, (y_, (A7, d7))) (by subst hLL; simp)).rt).mono fun e w' ⟨h1, h2⟩ => ⟨h1, a.call h2⟩))
  have hpr : p.proto = 1 ∨ p.proto = 2 := by have := NG.out.proto; omega
  have HPR := Lib.hid hpr
  clear hLL hpr
  generalize betterB ra rb = qab at *
  generalize betterB x_ y_ = qxy at *
  go_cut [82] (fun s wx => s = .bool false ∧ NW w wx bp p h LL)
  case first =>
    have hp0 := P7.out.drew
    by_cases hkx : x_.kind = 0
    · have hq1 : (x_.kind != 0) = false := by simp [hkx]
      clear hkx
      go_wp2_with fail
      refine wp_region_held_drew (S := (fun wy => wy.cell? ⟨bp, 0, none⟩ = some (.int .i64 p.proto) ∧ wy.cell? ⟨bp, 1, none⟩ = some (.int .i64 p.cap) ∧ wy.cell? ⟨bp, 2, none⟩ = some (.int .i64 p.k) ∧ wy.cell? ⟨bp, 3, none⟩ = some (.slice h.an p.nodes.length h.cn) ∧ wy.cell? ⟨bp, 4, none⟩ = some (.slice h.al p.links.length h.cl) ∧ wy.cell? ⟨bp, 5, none⟩ = some (.slice h.ad p.dests.length h.cd) ∧ wy.cell? ⟨bp, 6, none⟩ = some (.slice h.ac p.checks.length h.cc) ∧ wy.cell? ⟨b4, 0, none⟩ = some (.int .i64 ra.kind) ∧ wy.cell? ⟨b4, 1, none⟩ = some (.int .i64 ra.cost) ∧ wy.cell? ⟨b4, 2, none⟩ = some (.slice A4 ra.path.length d4) ∧ wy.cell? ⟨b5, 0, none⟩ = some (.int .i64 rb.kind) ∧ wy.cell? ⟨b5, 1, none⟩ = some (.int .i64 rb.cost) ∧ wy.cell? ⟨b5, 2, none⟩ = some (.slice A5 rb.path.length d5) ∧ wy.cell? ⟨b6, 0, none⟩ = some (.int .i64 x_.kind) ∧ wy.cell? ⟨b6, 1, none⟩ = some (.int .i64 x_.cost) ∧ wy.cell? ⟨b6, 2, none⟩ = some (.slice A6 x_.path.length d6) ∧ wy.cell? ⟨b7, 0, none⟩ = some (.int .i64 y_.kind) ∧ wy.cell? ⟨b7, 1, none⟩ = some (.int .i64 y_.cost) ∧ wy.cell? ⟨b7, 2, none⟩ = some (.slice A7 y_.path.length d7))) (by kernel_rfl) (HC.out _ hp0) (fun hHeld0 => ?_)
      refine take_list (i := 0) (v := ?_) rfl (by kernel_rfl) (by kernel_rfl) (by kernel_rfl) (fun _ _ _ h => h) (Or.inl ⟨by rfl, ?_⟩) (by assumption) ?_
      rotate_left
      · (intro w hSw; (try dsimp only at hSw); go_simp; try (with_reducible rfl))
      try simp only [Act.put, List.setIfInBounds_toArray, List.set_cons_zero, List.set_cons_succ]
      refine take_list (i := 1) (v := ?_) rfl (by kernel_rfl) (by kernel_rfl) (by kernel_rfl) (fun _ _ _ h => h) (Or.inl ⟨by rfl, ?_⟩) (by assumption) ?_
      rotate_left
      · (intro w hSw; (try dsimp only at hSw); go_simp; try (with_reducible rfl))
      try simp only [Act.put, List.setIfInBounds_toArray, List.set_cons_zero, List.set_cons_succ]
      refine take_list (i := 2) (v := ?_) rfl (by kernel_rfl) (by kernel_rfl) (by kernel_rfl) (fun _ _ _ h => h) (Or.inl ⟨by rfl, ?_⟩) (by assumption) ?_
      rotate_left
      · (intro w hSw; (try dsimp only at hSw); go_simp; try (with_reducible rfl))
      try simp only [Act.put, List.setIfInBounds_toArray, List.set_cons_zero, List.set_cons_succ]
      refine take_list (i := 3) (v := ?_) rfl (by kernel_rfl) (by kernel_rfl) (by kernel_rfl) (fun _ _ _ h => h) (Or.inl ⟨by rfl, ?_⟩) (by assumption) ?_
      rotate_left
      · (intro w hSw; (try dsimp only at hSw); go_simp; try (with_reducible rfl))
      try simp only [Act.put, List.setIfInBounds_toArray, List.set_cons_zero, List.set_cons_succ]
      refine take_list (i := 4) (v := undef) rfl (by kernel_rfl) (by kernel_rfl) (by kernel_rfl) (fun _ _ _ h => h) (Or.inr ⟨by rfl, rfl⟩) (by assumption) ?_
      try simp only [Act.put, List.setIfInBounds_toArray, List.set_cons_zero, List.set_cons_succ]
      refine take_list (i := 5) (v := undef) rfl (by kernel_rfl) (by kernel_rfl) (by kernel_rfl) (fun _ _ _ h => h) (Or.inr ⟨by rfl, rfl⟩) (by assumption) ?_
      try simp only [Act.put, List.setIfInBounds_toArray, List.set_cons_zero, List.set_cons_succ]
      refine take_list (i := 6) (v := undef) rfl (by kernel_rfl) (by kernel_rfl) (by kernel_rfl) (fun _ _ _ h => h) (Or.inr ⟨by rfl, rfl⟩) (by assumption) ?_
      try simp only [Act.put, List.setIfInBounds_toArray, List.set_cons_zero, List.set_cons_succ]
      refine take_list (i := 7) (v := ?_) rfl (by kernel_rfl) (by kernel_rfl) (by kernel_rfl) (fun _ _ _ h => h) (Or.inl ⟨by rfl, ?_⟩) (by assumption) ?_
      rotate_left
      · (intro w hSw; (try dsimp only at hSw); go_simp; try (with_reducible rfl))
      try simp only [Act.put, List.setIfInBounds_toArray, List.set_cons_zero, List.set_cons_succ]
      refine take_list (i := 8) (v := ?_) rfl (by kernel_rfl) (by kernel_rfl) (by kernel_rfl) (fun _ _ _ h => h) (Or.inl ⟨by rfl, ?_⟩) (by assumption) ?_
      rotate_left
      · (intro w hSw; (try dsimp only at hSw); go_simp; try (with_reducible rfl))
      try simp only [Act.put, List.setIfInBounds_toArray, List.set_cons_zero, List.set_cons_succ]
      refine take_list (i := 9) (v := undef) rfl (by kernel_rfl) (by kernel_rfl) (by kernel_rfl) (fun _ _ _ h => h) (Or.inr ⟨by rfl, rfl⟩) (by assumption) ?_
      try simp only [Act.put, List.setIfInBounds_toArray, List.set_cons_zero, List.set_cons_succ]
      refine take_list (i := 10) (v := undef) rfl (by kernel_rfl) (by kernel_rfl) (by kernel_rfl) (fun _ _ _ h => h) (Or.inr ⟨by rfl, rfl⟩) (by assumption) ?_
      try simp only [Act.put, List.setIfInBounds_toArray, List.set_cons_zero, List.set_cons_succ]
      refine take_list (i := 11) (v := undef) rfl (by kernel_rfl) (by kernel_rfl) (by kernel_rfl) (fun _ _ _ h => h) (Or.inr ⟨by rfl, rfl⟩) (by assumption) ?_
      try simp only [Act.put, List.setIfInBounds_toArray, List.set_cons_zero, List.set_cons_succ]
      refine take_list (i := 12) (v := undef) rfl (by kernel_rfl) (by kernel_rfl) (by kernel_rfl) (fun _ _ _ h => h) (Or.inr ⟨by rfl, rfl⟩) (by assumption) ?_
      try simp only [Act.put, List.setIfInBounds_toArray, List.set_cons_zero, List.set_cons_succ]
      refine take_list (i := 13) (v := undef) rfl (by kernel_rfl) (by kernel_rfl) (by kernel_rfl) (fun _ _ _ h => h) (Or.inr ⟨by rfl, rfl⟩) (by assumption) ?_
      try simp only [Act.put, List.setIfInBounds_toArray, List.set_cons_zero, List.set_cons_succ]
      refine take_list (i := 14) (v := undef) rfl (by kernel_rfl) (by kernel_rfl) (by kernel_rfl) (fun _ _ _ h => h) (Or.inr ⟨by rfl, rfl⟩) (by assumption) ?_
      try simp only [Act.put, List.setIfInBounds_toArray, List.set_cons_zero, List.set_cons_succ]
      refine take_list (i := 15) (v := undef) rfl (by kernel_rfl) (by kernel_rfl) (by kernel_rfl) (fun _ _ _ h => h) (Or.inr ⟨by rfl, rfl⟩) (by assumption) ?_
      try simp only [Act.put, List.setIfInBounds_toArray, List.set_cons_zero, List.set_cons_succ]
      refine take_list (i := 16) (v := ?_) rfl (by kernel_rfl) (by kernel_rfl) (by kernel_rfl) (fun _ _ _ h => h) (Or.inl ⟨by rfl, ?_⟩) (by assumption) ?_
      rotate_left
      · (intro w hSw; (try dsimp only at hSw); go_simp; try (with_reducible rfl))
      try simp only [Act.put, List.setIfInBounds_toArray, List.set_cons_zero, List.set_cons_succ]
      refine wpAnyH_done (by kernel_rfl) ?_ _
      clear hHeld0
      go_wp2
      go_meet
      case rel => exact ⟨rfl, hp0⟩
    · have hq1 : (x_.kind != 0) = true := by simp [hkx]
      by_cases hky : y_.kind = 0
      · have hq2 : (y_.kind != 0) = false := by simp [hky]
        clear hkx hky
        go_wp2_with fail
        refine wp_region_held_drew (S := (fun wy => wy.cell? ⟨bp, 0, none⟩ = some (.int .i64 p.proto) ∧ wy.cell? ⟨bp, 1, none⟩ = some (.int .i64 p.cap) ∧ wy.cell? ⟨bp, 2, none⟩ = some (.int .i64 p.k) ∧ wy.cell? ⟨bp, 3, none⟩ = some (.slice h.an p.nodes.length h.cn) ∧ wy.cell? ⟨bp, 4, none⟩ = some (.slice h.al p.links.length h.cl) ∧ wy.cell? ⟨bp, 5, none⟩ = some (.slice h.ad p.dests.length h.cd) ∧ wy.cell? ⟨bp, 6, none⟩ = some (.slice h.ac p.checks.length h.cc) ∧ wy.cell? ⟨b4, 0, none⟩ = some (.int .i64 ra.kind) ∧ wy.cell? ⟨b4, 1, none⟩ = some (.int .i64 ra.cost) ∧ wy.cell? ⟨b4, 2, none⟩ = some (.slice A4 ra.path.length d4) ∧ wy.cell? ⟨b5, 0, none⟩ = some (.int .i64 rb.kind) ∧ wy.cell? ⟨b5, 1, none⟩ = some (.int .i64 rb.cost) ∧ wy.cell? ⟨b5, 2, none⟩ = some (.slice A5 rb.path.length d5) ∧ wy.cell? ⟨b6, 0, none⟩ = some (.int .i64 x_.kind) ∧ wy.cell? ⟨b6, 1, none⟩ = some (.int .i64 x_.cost) ∧ wy.cell? ⟨b6, 2, none⟩ = some (.slice A6 x_.path.length d6) ∧ wy.cell? ⟨b7, 0, none⟩ = some (.int .i64 y_.kind) ∧ wy.cell? ⟨b7, 1, none⟩ = some (.int .i64 y_.cost) ∧ wy.cell? ⟨b7, 2, none⟩ = some (.slice A7 y_.path.length d7))) (by kernel_rfl) (HC.out _ hp0) (fun hHeld0 => ?_)
        refine take_list (i := 0) (v := ?_) rfl (by kernel_rfl) (by kernel_rfl) (by kernel_rfl) (fun _ _ _ h => h) (Or.inl ⟨by rfl, ?_⟩) (by assumption) ?_
        rotate_left
        · (intro w hSw; (try dsimp only at hSw); go_simp; try (with_reducible rfl))
        try simp only [Act.put, List.setIfInBounds_toArray, List.set_cons_zero, List.set_cons_succ]
        refine take_list (i := 1) (v := ?_) rfl (by kernel_rfl) (by kernel_rfl) (by kernel_rfl) (fun _ _ _ h => h) (Or.inl ⟨by rfl, ?_⟩) (by assumption) ?_
        rotate_left
        · (intro w hSw; (try dsimp only at hSw); go_simp; try (with_reducible rfl))
        try simp only [Act.put, List.setIfInBounds_toArray, List.set_cons_zero, List.set_cons_succ]
        refine take_list (i := 2) (v := ?_) rfl (by kernel_rfl) (by kernel_rfl) (by kernel_rfl) (fun _ _ _ h => h) (Or.inl ⟨by rfl, ?_⟩) (by assumption) ?_
        rotate_left
        · (intro w hSw; (try dsimp only at hSw); go_simp; try (with_reducible rfl))
        try simp only [Act.put, List.setIfInBounds_toArray, List.set_cons_zero, List.set_cons_succ]
        refine take_list (i := 3) (v := ?_) rfl (by kernel_rfl) (by kernel_rfl) (by kernel_rfl) (fun _ _ _ h => h) (Or.inl ⟨by rfl, ?_⟩) (by assumption) ?_
        rotate_left
        · (intro w hSw; (try dsimp only at hSw); go_simp; try (with_reducible rfl))
        try simp only [Act.put, List.setIfInBounds_toArray, List.set_cons_zero, List.set_cons_succ]
        refine take_list (i := 4) (v := ?_) rfl (by kernel_rfl) (by kernel_rfl) (by kernel_rfl) (fun _ _ _ h => h) (Or.inl ⟨by rfl, ?_⟩) (by assumption) ?_
        rotate_left
        · (intro w hSw; (try dsimp only at hSw); go_simp; try (with_reducible rfl))
        try simp only [Act.put, List.setIfInBounds_toArray, List.set_cons_zero, List.set_cons_succ]
        refine take_list (i := 5) (v := ?_) rfl (by kernel_rfl) (by kernel_rfl) (by kernel_rfl) (fun _ _ _ h => h) (Or.inl ⟨by rfl, ?_⟩) (by assumption) ?_
        rotate_left
        · (intro w hSw; (try dsimp only at hSw); go_simp; try (with_reducible rfl))
        try simp only [Act.put, List.setIfInBounds_toArray, List.set_cons_zero, List.set_cons_succ]
        refine take_list (i := 6) (v := ?_) rfl (by kernel_rfl) (by kernel_rfl) (by kernel_rfl) (fun _ _ _ h => h) (Or.inl ⟨by rfl, ?_⟩) (by assumption) ?_
        rotate_left
        · (intro w hSw; (try dsimp only at hSw); go_simp; try (with_reducible rfl))
        try simp only [Act.put, List.setIfInBounds_toArray, List.set_cons_zero, List.set_cons_succ]
        refine take_list (i := 7) (v := ?_) rfl (by kernel_rfl) (by kernel_rfl) (by kernel_rfl) (fun _ _ _ h => h) (Or.inl ⟨by rfl, ?_⟩) (by assumption) ?_
        rotate_left
        · (intro w hSw; (try dsimp only at hSw); go_simp; try (with_reducible rfl))
        try simp only [Act.put, List.setIfInBounds_toArray, List.set_cons_zero, List.set_cons_succ]
        refine take_list (i := 8) (v := ?_) rfl (by kernel_rfl) (by kernel_rfl) (by kernel_rfl) (fun _ _ _ h => h) (Or.inl ⟨by rfl, ?_⟩) (by assumption) ?_
        rotate_left
        · (intro w hSw; (try dsimp only at hSw); go_simp; try (with_reducible rfl))
        try simp only [Act.put, List.setIfInBounds_toArray, List.set_cons_zero, List.set_cons_succ]
        refine take_list (i := 9) (v := undef) rfl (by kernel_rfl) (by kernel_rfl) (by kernel_rfl) (fun _ _ _ h => h) (Or.inr ⟨by rfl, rfl⟩) (by assumption) ?_
        try simp only [Act.put, List.setIfInBounds_toArray, List.set_cons_zero, List.set_cons_succ]
        refine take_list (i := 10) (v := undef) rfl (by kernel_rfl) (by kernel_rfl) (by kernel_rfl) (fun _ _ _ h => h) (Or.inr ⟨by rfl, rfl⟩) (by assumption) ?_
        try simp only [Act.put, List.setIfInBounds_toArray, List.set_cons_zero, List.set_cons_succ]
        refine take_list (i := 11) (v := undef) rfl (by kernel_rfl) (by kernel_rfl) (by kernel_rfl) (fun _ _ _ h => h) (Or.inr ⟨by rfl, rfl⟩) (by assumption) ?_
        try simp only [Act.put, List.setIfInBounds_toArray, List.set_cons_zero, List.set_cons_succ]
        refine take_list (i := 12) (v := undef) rfl (by kernel_rfl) (by kernel_rfl) (by kernel_rfl) (fun _ _ _ h => h) (Or.inr ⟨by rfl, rfl⟩) (by assumption) ?_
        try simp only [Act.put, List.setIfInBounds_toArray, List.set_cons_zero, List.set_cons_succ]
        refine take_list (i := 13) (v := undef) rfl (by kernel_rfl) (by kernel_rfl) (by kernel_rfl) (fun _ _ _ h => h) (Or.inr ⟨by rfl, rfl⟩) (by assumption) ?_
        try simp only [Act.put, List.setIfInBounds_toArray, List.set_cons_zero, List.set_cons_succ]
        refine take_list (i := 14) (v := undef) rfl (by kernel_rfl) (by kernel_rfl) (by kernel_rfl) (fun _ _ _ h => h) (Or.inr ⟨by rfl, rfl⟩) (by assumption) ?_
        try simp only [Act.put, List.setIfInBounds_toArray, List.set_cons_zero, List.set_cons_succ]
        refine take_list (i := 15) (v := undef) rfl (by kernel_rfl) (by kernel_rfl) (by kernel_rfl) (fun _ _ _ h => h) (Or.inr ⟨by rfl, rfl⟩) (by assumption) ?_
        try simp only [Act.put, List.setIfInBounds_toArray, List.set_cons_zero, List.set_cons_succ]
        refine take_list (i := 16) (v := ?_) rfl (by kernel_rfl) (by kernel_rfl) (by kernel_rfl) (fun _ _ _ h => h) (Or.inl ⟨by rfl, ?_⟩) (by assumption) ?_
        rotate_left
        · (intro w hSw; (try dsimp only at hSw); go_simp; try (with_reducible rfl))
        try simp only [Act.put, List.setIfInBounds_toArray, List.set_cons_zero, List.set_cons_succ]
        refine wpAnyH_done (by kernel_rfl) ?_ _
        clear hHeld0
        go_wp2
        go_meet
        case rel => exact ⟨rfl, hp0⟩
      · have hq2 : (y_.kind != 0) = true := by simp [hky]
        have hq3 : qxy = qab := HKE.out hkx hky
        subst hq3
        have hq4 : (qxy != qxy) = false := by simp
        clear hkx hky
        go_wp2_with fail
        refine wp_region_held_drew (S := (fun wy => wy.cell? ⟨bp, 0, none⟩ = some (.int .i64 p.proto) ∧ wy.cell? ⟨bp, 1, none⟩ = some (.int .i64 p.cap) ∧ wy.cell? ⟨bp, 2, none⟩ = some (.int .i64 p.k) ∧ wy.cell? ⟨bp, 3, none⟩ = some (.slice h.an p.nodes.length h.cn) ∧ wy.cell? ⟨bp, 4, none⟩ = some (.slice h.al p.links.length h.cl) ∧ wy.cell? ⟨bp, 5, none⟩ = some (.slice h.ad p.dests.length h.cd) ∧ wy.cell? ⟨bp, 6, none⟩ = some (.slice h.ac p.checks.length h.cc) ∧ wy.cell? ⟨b4, 0, none⟩ = some (.int .i64 ra.kind) ∧ wy.cell? ⟨b4, 1, none⟩ = some (.int .i64 ra.cost) ∧ wy.cell? ⟨b4, 2, none⟩ = some (.slice A4 ra.path.length d4) ∧ wy.cell? ⟨b5, 0, none⟩ = some (.int .i64 rb.kind) ∧ wy.cell? ⟨b5, 1, none⟩ = some (.int .i64 rb.cost) ∧ wy.cell? ⟨b5, 2, none⟩ = some (.slice A5 rb.path.length d5) ∧ wy.cell? ⟨b6, 0, none⟩ = some (.int .i64 x_.kind) ∧ wy.cell? ⟨b6, 1, none⟩ = some (.int .i64 x_.cost) ∧ wy.cell? ⟨b6, 2, none⟩ = some (.slice A6 x_.path.length d6) ∧ wy.cell? ⟨b7, 0, none⟩ = some (.int .i64 y_.kind) ∧ wy.cell? ⟨b7, 1, none⟩ = some (.int .i64 y_.cost) ∧ wy.cell? ⟨b7, 2, none⟩ = some (.slice A7 y_.path.length d7))) (by kernel_rfl) (HC.out _ hp0) (fun hHeld0 => ?_)
        refine take_list (i := 0) (v := ?_) rfl (by kernel_rfl) (by kernel_rfl) (by kernel_rfl) (fun _ _ _ h => h) (Or.inl ⟨by rfl, ?_⟩) (by assumption) ?_
        rotate_left
        · (intro w hSw; (try dsimp only at hSw); go_simp; try (with_reducible rfl))
        try simp only [Act.put, List.setIfInBounds_toArray, List.set_cons_zero, List.set_cons_succ]
        refine take_list (i := 1) (v := ?_) rfl (by kernel_rfl) (by kernel_rfl) (by kernel_rfl) (fun _ _ _ h => h) (Or.inl ⟨by rfl, ?_⟩) (by assumption) ?_
        rotate_left
        · (intro w hSw; (try dsimp only at hSw); go_simp; try (with_reducible rfl))
        try simp only [Act.put, List.setIfInBounds_toArray, List.set_cons_zero, List.set_cons_succ]
        refine take_list (i := 2) (v := ?_) rfl (by kernel_rfl) (by kernel_rfl) (by kernel_rfl) (fun _ _ _ h => h) (Or.inl ⟨by rfl, ?_⟩) (by assumption) ?_
        rotate_left
        · (intro w hSw; (try dsimp only at hSw); go_simp; try (with_reducible rfl))
        try simp only [Act.put, List.setIfInBounds_toArray, List.set_cons_zero, List.set_cons_succ]
        refine take_list (i := 3) (v := ?_) rfl (by kernel_rfl) (by kernel_rfl) (by kernel_rfl) (fun _ _ _ h => h) (Or.inl ⟨by rfl, ?_⟩) (by assumption) ?_
        rotate_left
        · (intro w hSw; (try dsimp only at hSw); go_simp; try (with_reducible rfl))
        try simp only [Act.put, List.setIfInBounds_toArray, List.set_cons_zero, List.set_cons_succ]
        refine take_list (i := 4) (v := ?_) rfl (by kernel_rfl) (by kernel_rfl) (by kernel_rfl) (fun _ _ _ h => h) (Or.inl ⟨by rfl, ?_⟩) (by assumption) ?_
        rotate_left
        · (intro w hSw; (try dsimp only at hSw); go_simp; try (with_reducible rfl))
        try simp only [Act.put, List.setIfInBounds_toArray, List.set_cons_zero, List.set_cons_succ]
        refine take_list (i := 5) (v := ?_) rfl (by kernel_rfl) (by kernel_rfl) (by kernel_rfl) (fun _ _ _ h => h) (Or.inl ⟨by rfl, ?_⟩) (by assumption) ?_
        rotate_left
        · (intro w hSw; (try dsimp only at hSw); go_simp; try (with_reducible rfl))
        try simp only [Act.put, List.setIfInBounds_toArray, List.set_cons_zero, List.set_cons_succ]
        refine take_list (i := 6) (v := ?_) rfl (by kernel_rfl) (by kernel_rfl) (by kernel_rfl) (fun _ _ _ h => h) (Or.inl ⟨by rfl, ?_⟩) (by assumption) ?_
        rotate_left
        · (intro w hSw; (try dsimp only at hSw); go_simp; try (with_reducible rfl))
        try simp only [Act.put, List.setIfInBounds_toArray, List.set_cons_zero, List.set_cons_succ]
        refine take_list (i := 7) (v := ?_) rfl (by kernel_rfl) (by kernel_rfl) (by kernel_rfl) (fun _ _ _ h => h) (Or.inl ⟨by rfl, ?_⟩) (by assumption) ?_
        rotate_left
        · (intro w hSw; (try dsimp only at hSw); go_simp; try (with_reducible rfl))
        try simp only [Act.put, List.setIfInBounds_toArray, List.set_cons_zero, List.set_cons_succ]
        refine take_list (i := 8) (v := ?_) rfl (by kernel_rfl) (by kernel_rfl) (by kernel_rfl) (fun _ _ _ h => h) (Or.inl ⟨by rfl, ?_⟩) (by assumption) ?_
        rotate_left
        · (intro w hSw; (try dsimp only at hSw); go_simp; try (with_reducible rfl))
        try simp only [Act.put, List.setIfInBounds_toArray, List.set_cons_zero, List.set_cons_succ]
        refine take_list (i := 9) (v := ?_) rfl (by kernel_rfl) (by kernel_rfl) (by kernel_rfl) (fun _ _ _ h => h) (Or.inl ⟨by rfl, ?_⟩) (by assumption) ?_
        rotate_left
        · (intro w hSw; (try dsimp only at hSw); go_simp; try (with_reducible rfl))
        try simp only [Act.put, List.setIfInBounds_toArray, List.set_cons_zero, List.set_cons_succ]
        refine take_list (i := 10) (v := ?_) rfl (by kernel_rfl) (by kernel_rfl) (by kernel_rfl) (fun _ _ _ h => h) (Or.inl ⟨by rfl, ?_⟩) (by assumption) ?_
        rotate_left
        · (intro w hSw; (try dsimp only at hSw); go_simp; try (with_reducible rfl))
        try simp only [Act.put, List.setIfInBounds_toArray, List.set_cons_zero, List.set_cons_succ]
        refine take_list (i := 12) (v := ?_) rfl (by kernel_rfl) (by kernel_rfl) (by kernel_rfl) (fun _ _ _ h => h) (Or.inl ⟨by rfl, ?_⟩) (by assumption) ?_
        rotate_left
        · (intro w hSw; (try dsimp only at hSw); go_simp; try (with_reducible rfl))
        try simp only [Act.put, List.setIfInBounds_toArray, List.set_cons_zero, List.set_cons_succ]
        refine take_list (i := 13) (v := ?_) rfl (by kernel_rfl) (by kernel_rfl) (by kernel_rfl) (fun _ _ _ h => h) (Or.inl ⟨by rfl, ?_⟩) (by assumption) ?_
        rotate_left
        · (intro w hSw; (try dsimp only at hSw); go_simp; try (with_reducible rfl))
        try simp only [Act.put, List.setIfInBounds_toArray, List.set_cons_zero, List.set_cons_succ]
        refine wpAnyH_ready (rs := [11]) (by kernel_rfl) (by simp) ?_
        refine cons_list rfl (fun K hK => ?_) AllReadyH.nil
        go_simp
        (go_at_call 23; refine (CAB.out _ (by assumption)).mono ?_; rintro e wx ⟨rfl, hpx⟩)
        refine hK.out _ _ (HC.out _ (by assumption)) (fun hHeld1 => ?_)
        clear hK K hHeld0
        try simp only [Act.put, List.setIfInBounds_toArray, List.set_cons_zero, List.set_cons_succ]
        refine wpAnyH_ready (rs := [14]) (by kernel_rfl) (by simp) ?_
        refine cons_list rfl (fun K hK => ?_) AllReadyH.nil
        go_simp
        (go_at_call 23; refine (CXY.out _ (by assumption)).mono ?_; rintro e wz ⟨rfl, hpz⟩)
        refine hK.out _ _ (HC.out _ (by assumption)) (fun hHeld2 => ?_)
        clear hK K hHeld1
        try simp only [Act.put, List.setIfInBounds_toArray, List.set_cons_zero, List.set_cons_succ]
        refine take_list (i := 15) (v := ?_) rfl (by kernel_rfl) (by kernel_rfl) (by kernel_rfl) (fun _ _ _ h => h) (Or.inl ⟨by rfl, ?_⟩) (by assumption) ?_
        rotate_left
        · (intro w hSw; (try dsimp only at hSw); go_simp; try (with_reducible rfl))
        try simp only [Act.put, List.setIfInBounds_toArray, List.set_cons_zero, List.set_cons_succ]
        refine take_list (i := 16) (v := ?_) rfl (by kernel_rfl) (by kernel_rfl) (by kernel_rfl) (fun _ _ _ h => h) (Or.inl ⟨by rfl, ?_⟩) (by assumption) ?_
        rotate_left
        · (intro w hSw; (try dsimp only at hSw); go_simp; try (with_reducible rfl))
        try simp only [Act.put, List.setIfInBounds_toArray, List.set_cons_zero, List.set_cons_succ]
        refine wpAnyH_done (by kernel_rfl) ?_ _
        clear hHeld2
        go_wp2
        go_meet
        case rel => exact ⟨rfl, by assumption⟩
  case rest =>
  obtain ⟨rfl, hPC⟩ := hcut
  have PC := Lib.hid hPC
  obtain ⟨g0, g1, g2, g3, g4, g5, g6, a0_, a1_, a2_, e0_, e1_, e2_, x0_, x1_, x2_, y0_, y1_, y2_⟩ := HC.out _ hPC
  clear hPC P7 HKE
  rcases HPR.out with e | e
  · have hq1 : (p.proto == 2) = false := by simp [e]
    by_cases hky : y_.kind = 0
    · have hq2 : (y_.kind == 0) = true := by simp [hky]
      clear hky e
      go_wp2
      go_ret
      exact ⟨rfl, PC.out.pb.below⟩
    · have hq2 : (y_.kind == 0) = false := by simp [hky]
      by_cases hkx : x_.kind = 0
      · have hq3 : (x_.kind != 0) = false := by simp [hkx]
        have hqa : qab = false := by
          cases qab with
          | false => rfl
          | true => exact absurd hkx (HCM.out (by omega) hky rfl)
        subst hqa
        clear hkx hky e
        go_wp2_with (go_at_call 23; refine (CAB.out _ PC.out).mono ?_; rintro e wf ⟨rfl, hpf⟩)
        go_ret
        exact ⟨rfl, hpf.pb.below⟩
      · have hq3 : (x_.kind != 0) = true := by simp [hkx]
        clear hkx hky e
        go_wp2
        go_ret
        exact ⟨rfl, PC.out.pb.below⟩
  · have hq1 : (p.proto == 2) = true := by simp [e]
    clear e
    go_wp2
    go_ret
    exact ⟨rfl, PC.out.pb.below⟩
end Go.Proofs.YtiehlnokidhgfaaGreat

/- The walk of backstaylaw07.CarryLoops. -/
import Derived.Test.YtiehlnokidhgfaaGreatAwake7
import Derived.Test.YtiehlnokidhgfaaGreatLaw7
import Derived.Test.YtiehlnokidhgfaaGreatNetB
namespace Go.Proofs.YtiehlnokidhgfaaGreat
set_option linter.unusedSimpArgs false
set_option linter.unusedVariables false
open Go.RowKit

theorem NetOk.path {p : Net} (a : NetOk p) {c : Int} (h1 : 1 ≤ c) (h2 : c ≤ 6) : NetOk { p with proto := 2, cap := c } :=
  ⟨.inr ⟨rfl, h1, h2⟩, a.k, a.n, a.nodes, a.l9, a.links, a.pairs, a.d12, ⟨a.dests.names, a.dests.each⟩, a.c6, a.checks⟩
/-- The network's box, its protocol and its bound written. -/
theorem pb_path {w wr : World} {b : Nat} {p : Net} {h : Hd} {c : Int} (hb : Below w.heap.size w wr) (lo : w.heap.size ≤ b) (hh : wr.heap[b]? = some (.cells (netCells p h) 31 (0, 0))) (hn : NetR wr b p h) :
    PB w ((wr.setCell ⟨b, 0, none⟩ (.int .i64 2)).setCell ⟨b, 1, none⟩ (.int .i64 c)) b { p with proto := 2, cap := c } h := by
  have h1 := heap_setCell_same wr b 0 _ _ (.int .i64 2) hh
  have h2 := heap_setCell_same _ b 1 _ _ (.int .i64 c) h1
  have hk : ∀ q o, q < b → ((wr.setCell ⟨b, 0, none⟩ (.int .i64 2)).setCell ⟨b, 1, none⟩ (.int .i64 c)).cell? ⟨q, o, none⟩ = wr.cell? ⟨q, o, none⟩ := fun q o hq => by
    rw [World.cell?_setCell_other _ _ _ _ (by intro e; injection e with e1 e2; omega), World.cell?_setCell_other _ _ _ _ (by intro e; injection e with e1 e2; omega)]
  have hs : b < wr.heap.size := lt_heap hh
  refine ⟨(hb.setCell lo _).setCell lo _, by simpa [World.setCell] using hs, fun i u hu => ?_, ?_⟩
  · rw [cell_of_row _ _ i _ _ _ h2]
    simpa [netCells] using hu
  · have hn' := hn.keep hk
    exact ⟨hn'.nodes.more (by simp [World.setCell]; omega), hn'.links.more (by simp [World.setCell]; omega), hn'.dlen, hn'.dests.more (by simp [World.setCell]; omega), fun z hz => (hn'.origins z hz).more (by simp [World.setCell]; omega), hn'.checks.more (by simp [World.setCell]; omega)⟩
attribute [local go_sem ↓] Go.wp_at_zero Go.wp_at_succ
set_option maxRecDepth 100000 in
set_option maxHeartbeats 8000000 in
theorem carryLoops_walk (a0 a2 : Option Addr) (c0 c2 : Nat) (l0 l2 : List Int) (n1 : Int) (w : World) (h0 : InRow w a0 c0 l0) (h2 : InRow w a2 c2 l2) (k1 : In64 n1) :
    Calls Tryz.prog 4 #[.slice a0 l0.length c0, .int .i64 n1, .slice a2 l2.length c2] w fun e w' => e = .returned (.bool true) ∧ Below w.heap.size w w' := by
  have I1 := Lib.hid k1
  have H3 := Lib.hid h2
  clear k1 h2
  have H0 := Lib.hid h0
  clear h0
  go_enter Tryz.func4, Tryz.ntmps4
  go_wp2_with fail
  refine (awake7 _).mono ?_
  rintro e w1 ⟨rfl, hb1⟩
  have J0 := Lib.hid (H0.out.call hb1)
  have B1 := Lib.hid hb1
  clear hb1
  go_wp2_with fail
  refine (net_any _ _ l0 c0 J0.out.len J0.out.le J0.out.rd J0.out.in64).mono ?_
  rintro e w2 ⟨p, h, rfl, hok, hown, hb⟩
  have B2 := Lib.hid (since_trans B1.out hb)
  have OK := Lib.hid hok
  have GD := Lib.hid hok.good
  have NG := Lib.hid hok.good.netG
  have P0 : Hid (NW w (w2.alloc (.cells #[.int .i64 p.proto, .int .i64 p.cap, .int .i64 p.k, .slice h.an p.nodes.length h.cn, .slice h.al p.links.length h.cl, .slice h.ad p.dests.length h.cd, .slice h.ac p.checks.length h.cc] 31)) w2.heap.size p h []) := Lib.hid ⟨PB.begin B2.out hown.net, by intro z hz; cases hz⟩
  have F0 : Hid ((w2.alloc (.cells #[.int .i64 p.proto, .int .i64 p.cap, .int .i64 p.k, .slice h.an p.nodes.length h.cn, .slice h.al p.links.length h.cl, .slice h.ad p.dests.length h.cd, .slice h.ac p.checks.length h.cc] 31)).heap[w2.heap.size]? = some (.cells (netCells p h) 31 (0, 0))) := Lib.hid (heap_alloc_new _ _)
  have N0 : Hid (NetR (w2.alloc (.cells #[.int .i64 p.proto, .int .i64 p.cap, .int .i64 p.k, .slice h.an p.nodes.length h.cn, .slice h.al p.links.length h.cl, .slice h.ad p.dests.length h.cd, .slice h.ac p.checks.length h.cc] 31)) w2.heap.size p h) := Lib.hid (hown.net.alloc (Nat.le_refl _) _)
  have hn2 := hok.n.1
  have hn7 := hok.n.2
  have hl9 := hok.l9
  clear hb hown hok J0
  unfold netV netVal
  go_upto_region 3 with fail
  generalize (w2.alloc (.cells #[.int .i64 p.proto, .int .i64 p.cap, .int .i64 p.k, .slice h.an p.nodes.length h.cn, .slice h.al p.links.length h.cl, .slice h.ad p.dests.length h.cd, .slice h.ac p.checks.length h.cc] 31)) = w3 at *
  have HLO : Hid (w.heap.size ≤ w2.heap.size) := Lib.hid B2.out.size
  generalize w2.heap.size = bp at *
  clear B1 B2
  obtain ⟨g0, g1, g2, g3, g4, g5, g6⟩ := P0.out.pb.all
  by_cases hL : p.links.length = 0
  · have hq : ((p.links.length : Int) == 0) = true := by simp [hL]
    clear hL
    go_wp2
    go_ret
    exact ⟨rfl, P0.out.pb.below⟩
  have hq : ((p.links.length : Int) == 0) = false := by simp [hL]
  have hLp : 0 < (p.links.length : Int) := by omega
  have f0 := frozen_of_row w3 bp 0 _ _ F0.out
  have f1 := frozen_of_row w3 bp 1 _ _ F0.out
  have hp6 := pickV_in (c := n1) (n := 6) (by omega)
  have hw6 : IntKind.i64.wrap (1 + pickV n1 6) = 1 + pickV n1 6 := IntWalk.i64_in _ (by omega)
  clear hL hn2 hn7
  go_upto_region 7 with (go_at_call 12; refine (pick7_any n1 6 _ I1.out (by omega) (by omega)).mono ?_; rintro e w' ⟨rfl, rfl⟩)
  have OK2 := Lib.hid (OK.out.path (c := 1 + pickV n1 6) (by omega) (by omega))
  have PB2 := Lib.hid (pb_path (c := 1 + pickV n1 6) P0.out.pb.below HLO.out F0.out N0.out)
  clear hw6
  have HLP := Lib.hid (show 0 < (({ p with proto := 2, cap := 1 + pickV n1 6 } : Net).links.length : Int) from hLp)
  have HPR := Lib.hid (show ({ p with proto := 2, cap := 1 + pickV n1 6 } : Net).proto = 2 from rfl)
  generalize hq2 : ({ p with proto := 2, cap := 1 + pickV n1 6 } : Net) = q at OK2 PB2 HLP HPR
  generalize ((w3.setCell ⟨bp, 0, none⟩ (.int .i64 2)).setCell ⟨bp, 1, none⟩ (.int .i64 (1 + pickV n1 6))) = w5 at PB2 ⊢
  clear hq2 OK GD NG P0 F0 N0 HLO g0 g1 g2 g3 g4 g5 g6 hq hLp f0 f1 hp6 hl9
  generalize 1 + pickV n1 6 = cp at *
  generalize pickV n1 6 = cp6 at *
  have GD := Lib.hid OK2.out.good
  have NG := Lib.hid OK2.out.good.netG
  have P5 : Hid (NW w w5 bp q h []) := Lib.hid ⟨PB2.out, by intro z hz; cases hz⟩
  clear PB2
  obtain ⟨g0, g1, g2, g3, g4, g5, g6⟩ := P5.out.pb.all
  have hl9 := OK2.out.l9
  have hLp := HLP.out
  go_wp2_with fail
  refine (pick7_any n1 q.links.length _ I1.out hLp (by omega)).mono ?_
  rintro e w' ⟨rfl, rfl⟩
  have hi := pickV_in (c := n1) (n := q.links.length) hLp
  generalize pickV n1 q.links.length = i at *
  obtain ⟨i, rfl⟩ : ∃ k : Nat, i = k := ⟨i.toNat, by omega⟩
  obtain ⟨hi0, hi1⟩ := hi
  obtain ⟨x, hx⟩ := NG.out.link (k := i) (by omega)
  obtain ⟨xa', xb', xc'⟩ := x
  have hxa := hx.a
  have hxab := hx.ab
  have hxb := hx.b
  dsimp only at hxa hxab hxb
  obtain ⟨na, rfl⟩ : ∃ k : Nat, xa' = k := ⟨xa'.toNat, by omega⟩
  obtain ⟨nb, rfl⟩ : ∃ k : Nat, xb' = k := ⟨xb'.toNat, by omega⟩
  have hnaN : na < q.nodes.length := by omega
  have hnbN : nb < q.nodes.length := by omega
  obtain ⟨bl, ol, el, hbl, x0, x1, x2⟩ := P5.out.net.links.link hx.at_
  dsimp only at x0 x1 x2
  have HX := Lib.hid hx
  have HOB := Lib.hid (show othL q.links i (nb : Int) = (na : Int) from hx.othB)
  rw [el] at g4
  clear hLp hl9 hxa hxab hxb hx
  go_upto_region 10 with fail
  clear g0 g1 g2 g3 g4 g5 g6 x0 x1 x2 el
  obtain ⟨g0, g1, g2, g3, g4, g5, g6⟩ := P5.out.pb.all
  have J3 := Lib.hid (H3.out.call P5.out.pb.below)
  clear hi0 hi1
  go_wp2_with fail
  refine (held_any q h na l2 a2 c2 _ P5.out.net NG.out hnaN J3.out.rd J3.out.in64 J3.out.len).mono ?_
  rintro e w6 ⟨A4, c4, rfl, ho, hb⟩
  have HH := Lib.hid (heldR_holds NG.out (na : Int) l2)
  generalize heldR q na l2 = r at *
  have P6 := Lib.hid ((P5.out.call hb).push (RtR.of_own ho))
  clear g0 g1 g2 g3 g4 g5 g6 ho hb J3
  unfold rtV
  go_upto_region 11 with fail
  generalize (w6.alloc (.cells #[.int .i64 r.kind, .int .i64 r.cost, .slice A4 r.path.length c4] 24)) = v6 at *
  generalize w6.heap.size = b4 at *
  obtain ⟨g0, g1, g2, g3, g4, g5, g6⟩ := P6.out.pb.all
  obtain ⟨r0, r1, r2⟩ := (P6.out.each _ (List.mem_cons_self ..)).at_
  go_wp2_with fail
  refine (overX_any q h i nb r A4 c4 _ P6.out.net GD.out (P6.out.each _ (List.mem_cons_self ..)).rt).mono ?_
  rintro e w7 ⟨A5, c5, rfl, hr7, hb⟩
  obtain ⟨xa, hxa⟩ : ∃ x, q.nodes[na]? = some x := ⟨_, List.getElem?_eq_getElem hnaN⟩
  obtain ⟨xb, hxb⟩ : ∃ x, q.nodes[nb]? = some x := ⟨_, List.getElem?_eq_getElem hnbN⟩
  have hasa : asOf q (na : Int) = xa.as_ := by simp [asOf, hxa]
  have hasb : asOf q (nb : Int) = xb.as_ := by simp [asOf, hxb]
  have HOV := Lib.hid (show overR q i nb r = if (r.path.length : Int) < q.cap ∧ xb.as_ ≠ xa.as_ ∧ xb.as_ ∉ r.path then ⟨2, 0, xa.as_ :: r.path⟩ else rtNone from by
    have := over_path (k := (i : Int)) (n := (nb : Int)) NG.out HPR.out (by rw [HOB.out]; omega) HH.out.2 (by rw [HOB.out]; exact HH.out.1) (by rw [HOB.out]; exact NG.out.asIn (by omega) (by omega))
    rw [HOB.out, hasa, hasb] at this
    exact this)
  have HLE : Hid ((r.path.length : Int) ≤ q.cap ∧ q.cap ≤ 12) := Lib.hid (by
    have := NG.out.proto
    have h2 := HPR.out
    rcases HH.out.1.some HH.out.2 with ⟨_, _, _, _, t, _⟩ | ⟨t, _⟩
    · exact ⟨t, by omega⟩
    · exact absurd h2 t)
  generalize overR q i nb r = o at *
  have P7 := Lib.hid ((P6.out.call hb).push hr7)
  clear g0 g1 g2 g3 g4 g5 g6 r0 r1 r2 hb hr7 P6 P5
  unfold rtV
  go_upto_region 12 with fail
  generalize (w7.alloc (.cells #[.int .i64 o.kind, .int .i64 o.cost, .slice A5 o.path.length c5] 24)) = v7 at *
  generalize w7.heap.size = b5 at *
  obtain ⟨bn, on, en, hbn, -, ya⟩ := P7.out.net.nodes.node hxa
  obtain ⟨bn', on', en', -, -, yb⟩ := P7.out.net.nodes.node hxb
  rw [en] at en'
  injection en' with en'
  injection en' with en1 en2
  subst en1 en2
  have HS : Hid (∀ wy, Below v7.heap.size v7 wy → (fun wy => wy.cell? ⟨bp, 3, none⟩ = some (.slice (some ⟨bn, on, none⟩) q.nodes.length h.cn) ∧ wy.cell? ⟨bn, on + na * 2 + 1, none⟩ = some (.int .i64 xa.as_) ∧ wy.cell? ⟨bn, on + nb * 2 + 1, none⟩ = some (.int .i64 xb.as_) ∧ wy.cell? ⟨b4, 0, none⟩ = some (.int .i64 r.kind) ∧ wy.cell? ⟨b4, 1, none⟩ = some (.int .i64 r.cost) ∧ wy.cell? ⟨b4, 2, none⟩ = some (.slice A4 r.path.length c4) ∧ wy.cell? ⟨b5, 0, none⟩ = some (.int .i64 o.kind) ∧ wy.cell? ⟨b5, 1, none⟩ = some (.int .i64 o.cost) ∧ wy.cell? ⟨b5, 2, none⟩ = some (.slice A5 o.path.length c5)) wy) := Lib.hid (fun wy hb => by
    have a := P7.out.call hb
    obtain ⟨q0, q1, q2, q3, q4, q5, q6⟩ := a.pb.all
    rw [en] at q3
    have k1 := (a.each (b4, (r, (A4, c4))) (by simp)).at_
    have k2 := (a.each (b5, (o, (A5, c5))) (by simp)).at_
    exact ⟨q3, (hb.cell (p := ⟨bn, on + na * 2 + 1, none⟩) hbn).trans ya, (hb.cell (p := ⟨bn, on + nb * 2 + 1, none⟩) hbn).trans yb, k1.1, k1.2.1, k1.2.2, k2⟩)
  have hna0 : (0 : Int) ≤ (na : Int) := by omega
  have hna1 : (na : Int) < (q.nodes.length : Int) := by omega
  have hnb0 : (0 : Int) ≤ (nb : Int) := by omega
  have hnb1 : (nb : Int) < (q.nodes.length : Int) := by omega
  clear en ya yb hasa hasb hxa hxb hnaN hnbN
  go_cut [14] (fun s wx => s = .bool (decide (xb.as_ = xa.as_)) ∧ Below v7.heap.size v7 wx)
  case first =>
    have HQ := Lib.hid (show (xa.as_ == xb.as_) = decide (xb.as_ = xa.as_) from by rw [Bool.eq_iff_iff]; simp; exact ⟨fun h => h.symm, fun h => h.symm⟩)
    go_wp2_with fail
    refine wp_region_held_drew (S := (fun wy => wy.cell? ⟨bp, 3, none⟩ = some (.slice (some ⟨bn, on, none⟩) q.nodes.length h.cn) ∧ wy.cell? ⟨bn, on + na * 2 + 1, none⟩ = some (.int .i64 xa.as_) ∧ wy.cell? ⟨bn, on + nb * 2 + 1, none⟩ = some (.int .i64 xb.as_) ∧ wy.cell? ⟨b4, 0, none⟩ = some (.int .i64 r.kind) ∧ wy.cell? ⟨b4, 1, none⟩ = some (.int .i64 r.cost) ∧ wy.cell? ⟨b4, 2, none⟩ = some (.slice A4 r.path.length c4) ∧ wy.cell? ⟨b5, 0, none⟩ = some (.int .i64 o.kind) ∧ wy.cell? ⟨b5, 1, none⟩ = some (.int .i64 o.cost) ∧ wy.cell? ⟨b5, 2, none⟩ = some (.slice A5 o.path.length c5))) (by kernel_rfl) (HS.out _ (below_drew (Below.refl _ _))) (fun hHeld0 => ?_)
    refine take_list (i := 0) (v := ?_) rfl (by kernel_rfl) (by kernel_rfl) (by kernel_rfl) (fun _ _ _ h => h) (Or.inl ⟨by rfl, ?_⟩) (by assumption) ?_
    rotate_left
    · (intro w hSw; (try dsimp only at hSw); go_simp; try (with_reducible rfl))
    try simp only [Act.put, List.setIfInBounds_toArray, List.set_cons_zero, List.set_cons_succ]
    refine take_list (i := 1) (v := ?_) rfl (by kernel_rfl) (by kernel_rfl) (by kernel_rfl) (fun _ _ _ h => h) (Or.inl ⟨by rfl, ?_⟩) (by assumption) ?_
    rotate_left
    · (intro w hSw; (try dsimp only at hSw); go_simp; try (with_reducible rfl))
    try simp only [Act.put, List.setIfInBounds_toArray, List.set_cons_zero, List.set_cons_succ]
    refine take_list (i := 2) (v := ?_) rfl (by kernel_rfl) (by kernel_rfl) (by kernel_rfl) (fun _ _ _ h => h) (Or.inl ⟨by rfl, ?_⟩) (by assumption) ?_
    rotate_left
    · (intro w hSw; (try dsimp only at hSw); go_simp; try (with_reducible rfl))
    try simp only [Act.put, List.setIfInBounds_toArray, List.set_cons_zero, List.set_cons_succ]
    refine take_list (i := 3) (v := ?_) rfl (by kernel_rfl) (by kernel_rfl) (by kernel_rfl) (fun _ _ _ h => h) (Or.inl ⟨by rfl, ?_⟩) (by assumption) ?_
    rotate_left
    · (intro w hSw; (try dsimp only at hSw); go_simp; try (with_reducible rfl))
    try simp only [Act.put, List.setIfInBounds_toArray, List.set_cons_zero, List.set_cons_succ]
    refine take_list (i := 4) (v := ?_) rfl (by kernel_rfl) (by kernel_rfl) (by kernel_rfl) (fun _ _ _ h => h) (Or.inl ⟨by rfl, ?_⟩) (by assumption) ?_
    rotate_left
    · (intro w hSw; (try dsimp only at hSw); go_simp; try (with_reducible rfl))
    try simp only [Act.put, List.setIfInBounds_toArray, List.set_cons_zero, List.set_cons_succ]
    refine take_list (i := 5) (v := ?_) rfl (by kernel_rfl) (by kernel_rfl) (by kernel_rfl) (fun _ _ _ h => h) (Or.inl ⟨by rfl, ?_⟩) (by assumption) ?_
    rotate_left
    · (intro w hSw; (try dsimp only at hSw); go_simp; try (with_reducible rfl))
    try simp only [Act.put, List.setIfInBounds_toArray, List.set_cons_zero, List.set_cons_succ]
    refine take_list (i := 6) (v := ?_) rfl (by kernel_rfl) (by kernel_rfl) (by kernel_rfl) (fun _ _ _ h => h) (Or.inl ⟨by rfl, ?_⟩) (by assumption) ?_
    rotate_left
    · (intro w hSw; (try dsimp only at hSw); go_simp; try (with_reducible rfl))
    try simp only [Act.put, List.setIfInBounds_toArray, List.set_cons_zero, List.set_cons_succ]
    refine take_list (i := 7) (v := ?_) rfl (by kernel_rfl) (by kernel_rfl) (by kernel_rfl) (fun _ _ _ h => h) (Or.inl ⟨by rfl, ?_⟩) (by assumption) ?_
    rotate_left
    · (intro w hSw; (try dsimp only at hSw); go_simp; try (with_reducible rfl))
    try simp only [Act.put, List.setIfInBounds_toArray, List.set_cons_zero, List.set_cons_succ]
    refine take_list (i := 8) (v := ?_) rfl (by kernel_rfl) (by kernel_rfl) (by kernel_rfl) (fun _ _ _ h => h) (Or.inl ⟨by rfl, ?_⟩) (by assumption) ?_
    rotate_left
    · (intro w hSw; (try dsimp only at hSw); go_simp; try (with_reducible rfl))
    try simp only [Act.put, List.setIfInBounds_toArray, List.set_cons_zero, List.set_cons_succ]
    refine take_list (i := 9) (v := ?_) rfl (by kernel_rfl) (by kernel_rfl) (by kernel_rfl) (fun _ _ _ h => h) (Or.inl ⟨by rfl, ?_⟩) (by assumption) ?_
    rotate_left
    · (intro w hSw; (try dsimp only at hSw); go_simp; try (with_reducible rfl))
    try simp only [Act.put, List.setIfInBounds_toArray, List.set_cons_zero, List.set_cons_succ]
    refine take_list (i := 10) (v := ?_) rfl (by kernel_rfl) (by kernel_rfl) (by kernel_rfl) (fun _ _ _ h => h) (Or.inl ⟨by rfl, ?_⟩) (by assumption) ?_
    rotate_left
    · (intro w hSw; (try dsimp only at hSw); go_simp; try (with_reducible rfl))
    try simp only [Act.put, List.setIfInBounds_toArray, List.set_cons_zero, List.set_cons_succ]
    refine take_list (i := 11) (v := ?_) rfl (by kernel_rfl) (by kernel_rfl) (by kernel_rfl) (fun _ _ _ h => h) (Or.inl ⟨by rfl, ?_⟩) (by assumption) ?_
    rotate_left
    · (intro w hSw; (try dsimp only at hSw); go_simp; try (with_reducible rfl))
    try simp only [Act.put, List.setIfInBounds_toArray, List.set_cons_zero, List.set_cons_succ]
    refine take_list (i := 12) (v := ?_) rfl (by kernel_rfl) (by kernel_rfl) (by kernel_rfl) (fun _ _ _ h => h) (Or.inl ⟨by rfl, ?_⟩) (by assumption) ?_
    rotate_left
    · (intro w hSw; (try dsimp only at hSw); go_simp; try (with_reducible rfl))
    try simp only [Act.put, List.setIfInBounds_toArray, List.set_cons_zero, List.set_cons_succ]
    refine take_list (i := 13) (v := ?_) rfl (by kernel_rfl) (by kernel_rfl) (by kernel_rfl) (fun _ _ _ h => h) (Or.inl ⟨by rfl, ?_⟩) (by assumption) ?_
    rotate_left
    · (intro w hSw; (try dsimp only at hSw); go_simp; try (with_reducible rfl))
    try simp only [Act.put, List.setIfInBounds_toArray, List.set_cons_zero, List.set_cons_succ]
    refine wpAnyH_done (by kernel_rfl) ?_ _
    clear hHeld0
    go_wp2
    go_meet
    case rel => exact ⟨by rw [← HQ.out], below_drew (Below.refl _ _)⟩
  case rest =>
  obtain ⟨rfl, hvc⟩ := hcut
  have HVC := Lib.hid hvc
  clear hvc
  have HPX : Hid (∀ wy, Below v7.heap.size v7 wy → NW w wy bp q h [(b5, (o, (A5, c5))), (b4, (r, (A4, c4)))]) := Lib.hid (fun wy hb => P7.out.call hb)
  have hle := HLE.out
  go_wp2_with fail
  go_loopw [14, 15] (fun sl sk wx => ∃ k : Nat, k ≤ r.path.length ∧ sk = .int .i64 (k : Int) ∧ sl = .bool (decide (xb.as_ = xa.as_) || decide (xb.as_ ∈ r.path.take k)) ∧ Below v7.heap.size v7 wx) (fun _ sk _ => r.path.length - (intOf sk).toNat)
  case atStart => exact ⟨0, Nat.zero_le _, rfl, by simp, HVC.out⟩
  case round =>
    obtain ⟨k, hk, rfl, rfl, hB⟩ := hrel
    have HB := Lib.hid hB
    clear hB
    obtain ⟨s3, sa, sb, r0, r1, r2, k0, k1, k2⟩ := HS.out _ HB.out
    by_cases hlt : k < r.path.length
    · obtain ⟨y, hy⟩ : ∃ y, r.path[k]? = some y := ⟨_, List.getElem?_eq_getElem hlt⟩
      obtain ⟨b1, o1, e1, hb1, hc1⟩ := ((HPX.out _ HB.out).each (b4, (r, (A4, c4))) (by simp)).rt.1.one (ints_at hy)
      dsimp only at e1
      have HT := Lib.hid (show (decide (xb.as_ = xa.as_) || decide (xb.as_ ∈ r.path.take (k + 1))) = ((decide (xb.as_ = xa.as_) || decide (xb.as_ ∈ r.path.take k)) || (y == xb.as_)) from by
        rw [List.take_add_one, hy, Bool.or_assoc]
        congr 1
        rw [Bool.eq_iff_iff]
        simp
        constructor
        · rintro (h | h)
          · exact .inl h
          · exact .inr h.symm
        · rintro (h | h)
          · exact .inl h
          · exact .inr h.symm)
      have HS2 : Hid (∀ wy, Below wr.heap.size wr wy → (fun wy => wy.cell? ⟨bp, 3, none⟩ = some (.slice (some ⟨bn, on, none⟩) q.nodes.length h.cn) ∧ wy.cell? ⟨bn, on + nb * 2 + 1, none⟩ = some (.int .i64 xb.as_) ∧ wy.cell? ⟨b4, 2, none⟩ = some (.slice (some ⟨b1, o1, none⟩) r.path.length c4) ∧ wy.cell? ⟨b1, o1 + k, none⟩ = some (.int .i64 y)) wy) := Lib.hid (fun wy hb => by
        obtain ⟨q3, qa, qb, t0, t1, t2, u0, u1, u2⟩ := HS.out _ (since_trans HB.out hb)
        rw [e1] at t2
        exact ⟨q3, qb, t2, (hb.cell (p := ⟨b1, o1 + k, none⟩) hb1).trans hc1⟩)
      rw [e1] at r2
      have hk0 : (0 : Int) ≤ (k : Int) := by omega
      have hk1 : (k : Int) < (r.path.length : Int) := by omega
      clear hy hc1 hlt hb1
      cases hd : (decide (xb.as_ = xa.as_) || decide (xb.as_ ∈ r.path.take k)) with
      | true =>
        go_wp2_with fail
        refine wp_region_held_drew (S := (fun wy => wy.cell? ⟨bp, 3, none⟩ = some (.slice (some ⟨bn, on, none⟩) q.nodes.length h.cn) ∧ wy.cell? ⟨bn, on + nb * 2 + 1, none⟩ = some (.int .i64 xb.as_) ∧ wy.cell? ⟨b4, 2, none⟩ = some (.slice (some ⟨b1, o1, none⟩) r.path.length c4) ∧ wy.cell? ⟨b1, o1 + k, none⟩ = some (.int .i64 y))) (by kernel_rfl) (HS2.out _ (below_drew (Below.refl _ _))) (fun hHeld0 => ?_)
        refine take_list (i := 0) (v := ?_) rfl (by kernel_rfl) (by kernel_rfl) (by kernel_rfl) (fun _ _ _ h => h) (Or.inl ⟨by rfl, ?_⟩) (by assumption) ?_
        rotate_left
        · (intro w hSw; (try dsimp only at hSw); go_simp; try (with_reducible rfl))
        try simp only [Act.put, List.setIfInBounds_toArray, List.set_cons_zero, List.set_cons_succ]
        refine take_list (i := 1) (v := ?_) rfl (by kernel_rfl) (by kernel_rfl) (by kernel_rfl) (fun _ _ _ h => h) (Or.inl ⟨by rfl, ?_⟩) (by assumption) ?_
        rotate_left
        · (intro w hSw; (try dsimp only at hSw); go_simp; try (with_reducible rfl))
        try simp only [Act.put, List.setIfInBounds_toArray, List.set_cons_zero, List.set_cons_succ]
        refine take_list (i := 2) (v := undef) rfl (by kernel_rfl) (by kernel_rfl) (by kernel_rfl) (fun _ _ _ h => h) (Or.inr ⟨by rfl, rfl⟩) (by assumption) ?_
        try simp only [Act.put, List.setIfInBounds_toArray, List.set_cons_zero, List.set_cons_succ]
        refine take_list (i := 3) (v := undef) rfl (by kernel_rfl) (by kernel_rfl) (by kernel_rfl) (fun _ _ _ h => h) (Or.inr ⟨by rfl, rfl⟩) (by assumption) ?_
        try simp only [Act.put, List.setIfInBounds_toArray, List.set_cons_zero, List.set_cons_succ]
        refine take_list (i := 4) (v := undef) rfl (by kernel_rfl) (by kernel_rfl) (by kernel_rfl) (fun _ _ _ h => h) (Or.inr ⟨by rfl, rfl⟩) (by assumption) ?_
        try simp only [Act.put, List.setIfInBounds_toArray, List.set_cons_zero, List.set_cons_succ]
        refine take_list (i := 5) (v := undef) rfl (by kernel_rfl) (by kernel_rfl) (by kernel_rfl) (fun _ _ _ h => h) (Or.inr ⟨by rfl, rfl⟩) (by assumption) ?_
        try simp only [Act.put, List.setIfInBounds_toArray, List.set_cons_zero, List.set_cons_succ]
        refine take_list (i := 6) (v := undef) rfl (by kernel_rfl) (by kernel_rfl) (by kernel_rfl) (fun _ _ _ h => h) (Or.inr ⟨by rfl, rfl⟩) (by assumption) ?_
        try simp only [Act.put, List.setIfInBounds_toArray, List.set_cons_zero, List.set_cons_succ]
        refine take_list (i := 7) (v := undef) rfl (by kernel_rfl) (by kernel_rfl) (by kernel_rfl) (fun _ _ _ h => h) (Or.inr ⟨by rfl, rfl⟩) (by assumption) ?_
        try simp only [Act.put, List.setIfInBounds_toArray, List.set_cons_zero, List.set_cons_succ]
        refine take_list (i := 8) (v := undef) rfl (by kernel_rfl) (by kernel_rfl) (by kernel_rfl) (fun _ _ _ h => h) (Or.inr ⟨by rfl, rfl⟩) (by assumption) ?_
        try simp only [Act.put, List.setIfInBounds_toArray, List.set_cons_zero, List.set_cons_succ]
        refine take_list (i := 9) (v := undef) rfl (by kernel_rfl) (by kernel_rfl) (by kernel_rfl) (fun _ _ _ h => h) (Or.inr ⟨by rfl, rfl⟩) (by assumption) ?_
        try simp only [Act.put, List.setIfInBounds_toArray, List.set_cons_zero, List.set_cons_succ]
        refine take_list (i := 10) (v := undef) rfl (by kernel_rfl) (by kernel_rfl) (by kernel_rfl) (fun _ _ _ h => h) (Or.inr ⟨by rfl, rfl⟩) (by assumption) ?_
        try simp only [Act.put, List.setIfInBounds_toArray, List.set_cons_zero, List.set_cons_succ]
        refine take_list (i := 11) (v := undef) rfl (by kernel_rfl) (by kernel_rfl) (by kernel_rfl) (fun _ _ _ h => h) (Or.inr ⟨by rfl, rfl⟩) (by assumption) ?_
        try simp only [Act.put, List.setIfInBounds_toArray, List.set_cons_zero, List.set_cons_succ]
        refine take_list (i := 12) (v := undef) rfl (by kernel_rfl) (by kernel_rfl) (by kernel_rfl) (fun _ _ _ h => h) (Or.inr ⟨by rfl, rfl⟩) (by assumption) ?_
        try simp only [Act.put, List.setIfInBounds_toArray, List.set_cons_zero, List.set_cons_succ]
        refine take_list (i := 13) (v := undef) rfl (by kernel_rfl) (by kernel_rfl) (by kernel_rfl) (fun _ _ _ h => h) (Or.inr ⟨by rfl, rfl⟩) (by assumption) ?_
        try simp only [Act.put, List.setIfInBounds_toArray, List.set_cons_zero, List.set_cons_succ]
        refine take_list (i := 14) (v := ?_) rfl (by kernel_rfl) (by kernel_rfl) (by kernel_rfl) (fun _ _ _ h => h) (Or.inl ⟨by rfl, ?_⟩) (by assumption) ?_
        rotate_left
        · (intro w hSw; (try dsimp only at hSw); go_simp; try (with_reducible rfl))
        try simp only [Act.put, List.setIfInBounds_toArray, List.set_cons_zero, List.set_cons_succ]
        refine take_list (i := 15) (v := ?_) rfl (by kernel_rfl) (by kernel_rfl) (by kernel_rfl) (fun _ _ _ h => h) (Or.inl ⟨by rfl, ?_⟩) (by assumption) ?_
        rotate_left
        · (intro w hSw; (try dsimp only at hSw); go_simp; try (with_reducible rfl))
        try simp only [Act.put, List.setIfInBounds_toArray, List.set_cons_zero, List.set_cons_succ]
        refine wpAnyH_done (by kernel_rfl) ?_ _
        clear hHeld0
        go_wp2
        go_roundw
        case rel => exact ⟨k + 1, by omega, by go_num, by rw [HT.out, hd]; rfl, below_drew HB.out⟩
        case measure => simp [intOf]; omega
      | false =>
        go_wp2_with fail
        refine wp_region_held_drew (S := (fun wy => wy.cell? ⟨bp, 3, none⟩ = some (.slice (some ⟨bn, on, none⟩) q.nodes.length h.cn) ∧ wy.cell? ⟨bn, on + nb * 2 + 1, none⟩ = some (.int .i64 xb.as_) ∧ wy.cell? ⟨b4, 2, none⟩ = some (.slice (some ⟨b1, o1, none⟩) r.path.length c4) ∧ wy.cell? ⟨b1, o1 + k, none⟩ = some (.int .i64 y))) (by kernel_rfl) (HS2.out _ (below_drew (Below.refl _ _))) (fun hHeld0 => ?_)
        refine take_list (i := 0) (v := ?_) rfl (by kernel_rfl) (by kernel_rfl) (by kernel_rfl) (fun _ _ _ h => h) (Or.inl ⟨by rfl, ?_⟩) (by assumption) ?_
        rotate_left
        · (intro w hSw; (try dsimp only at hSw); go_simp; try (with_reducible rfl))
        try simp only [Act.put, List.setIfInBounds_toArray, List.set_cons_zero, List.set_cons_succ]
        refine take_list (i := 1) (v := ?_) rfl (by kernel_rfl) (by kernel_rfl) (by kernel_rfl) (fun _ _ _ h => h) (Or.inl ⟨by rfl, ?_⟩) (by assumption) ?_
        rotate_left
        · (intro w hSw; (try dsimp only at hSw); go_simp; try (with_reducible rfl))
        try simp only [Act.put, List.setIfInBounds_toArray, List.set_cons_zero, List.set_cons_succ]
        refine take_list (i := 2) (v := ?_) rfl (by kernel_rfl) (by kernel_rfl) (by kernel_rfl) (fun _ _ _ h => h) (Or.inl ⟨by rfl, ?_⟩) (by assumption) ?_
        rotate_left
        · (intro w hSw; (try dsimp only at hSw); go_simp; try (with_reducible rfl))
        try simp only [Act.put, List.setIfInBounds_toArray, List.set_cons_zero, List.set_cons_succ]
        refine take_list (i := 3) (v := ?_) rfl (by kernel_rfl) (by kernel_rfl) (by kernel_rfl) (fun _ _ _ h => h) (Or.inl ⟨by rfl, ?_⟩) (by assumption) ?_
        rotate_left
        · (intro w hSw; (try dsimp only at hSw); go_simp; try (with_reducible rfl))
        try simp only [Act.put, List.setIfInBounds_toArray, List.set_cons_zero, List.set_cons_succ]
        refine take_list (i := 4) (v := ?_) rfl (by kernel_rfl) (by kernel_rfl) (by kernel_rfl) (fun _ _ _ h => h) (Or.inl ⟨by rfl, ?_⟩) (by assumption) ?_
        rotate_left
        · (intro w hSw; (try dsimp only at hSw); go_simp; try (with_reducible rfl))
        try simp only [Act.put, List.setIfInBounds_toArray, List.set_cons_zero, List.set_cons_succ]
        refine take_list (i := 5) (v := ?_) rfl (by kernel_rfl) (by kernel_rfl) (by kernel_rfl) (fun _ _ _ h => h) (Or.inl ⟨by rfl, ?_⟩) (by assumption) ?_
        rotate_left
        · (intro w hSw; (try dsimp only at hSw); go_simp; try (with_reducible rfl))
        try simp only [Act.put, List.setIfInBounds_toArray, List.set_cons_zero, List.set_cons_succ]
        refine take_list (i := 6) (v := ?_) rfl (by kernel_rfl) (by kernel_rfl) (by kernel_rfl) (fun _ _ _ h => h) (Or.inl ⟨by rfl, ?_⟩) (by assumption) ?_
        rotate_left
        · (intro w hSw; (try dsimp only at hSw); go_simp; try (with_reducible rfl))
        try simp only [Act.put, List.setIfInBounds_toArray, List.set_cons_zero, List.set_cons_succ]
        refine take_list (i := 7) (v := ?_) rfl (by kernel_rfl) (by kernel_rfl) (by kernel_rfl) (fun _ _ _ h => h) (Or.inl ⟨by rfl, ?_⟩) (by assumption) ?_
        rotate_left
        · (intro w hSw; (try dsimp only at hSw); go_simp; try (with_reducible rfl))
        try simp only [Act.put, List.setIfInBounds_toArray, List.set_cons_zero, List.set_cons_succ]
        refine take_list (i := 8) (v := ?_) rfl (by kernel_rfl) (by kernel_rfl) (by kernel_rfl) (fun _ _ _ h => h) (Or.inl ⟨by rfl, ?_⟩) (by assumption) ?_
        rotate_left
        · (intro w hSw; (try dsimp only at hSw); go_simp; try (with_reducible rfl))
        try simp only [Act.put, List.setIfInBounds_toArray, List.set_cons_zero, List.set_cons_succ]
        refine take_list (i := 9) (v := ?_) rfl (by kernel_rfl) (by kernel_rfl) (by kernel_rfl) (fun _ _ _ h => h) (Or.inl ⟨by rfl, ?_⟩) (by assumption) ?_
        rotate_left
        · (intro w hSw; (try dsimp only at hSw); go_simp; try (with_reducible rfl))
        try simp only [Act.put, List.setIfInBounds_toArray, List.set_cons_zero, List.set_cons_succ]
        refine take_list (i := 10) (v := ?_) rfl (by kernel_rfl) (by kernel_rfl) (by kernel_rfl) (fun _ _ _ h => h) (Or.inl ⟨by rfl, ?_⟩) (by assumption) ?_
        rotate_left
        · (intro w hSw; (try dsimp only at hSw); go_simp; try (with_reducible rfl))
        try simp only [Act.put, List.setIfInBounds_toArray, List.set_cons_zero, List.set_cons_succ]
        refine take_list (i := 11) (v := ?_) rfl (by kernel_rfl) (by kernel_rfl) (by kernel_rfl) (fun _ _ _ h => h) (Or.inl ⟨by rfl, ?_⟩) (by assumption) ?_
        rotate_left
        · (intro w hSw; (try dsimp only at hSw); go_simp; try (with_reducible rfl))
        try simp only [Act.put, List.setIfInBounds_toArray, List.set_cons_zero, List.set_cons_succ]
        refine take_list (i := 12) (v := ?_) rfl (by kernel_rfl) (by kernel_rfl) (by kernel_rfl) (fun _ _ _ h => h) (Or.inl ⟨by rfl, ?_⟩) (by assumption) ?_
        rotate_left
        · (intro w hSw; (try dsimp only at hSw); go_simp; try (with_reducible rfl))
        try simp only [Act.put, List.setIfInBounds_toArray, List.set_cons_zero, List.set_cons_succ]
        refine take_list (i := 13) (v := ?_) rfl (by kernel_rfl) (by kernel_rfl) (by kernel_rfl) (fun _ _ _ h => h) (Or.inl ⟨by rfl, ?_⟩) (by assumption) ?_
        rotate_left
        · (intro w hSw; (try dsimp only at hSw); go_simp; try (with_reducible rfl))
        try simp only [Act.put, List.setIfInBounds_toArray, List.set_cons_zero, List.set_cons_succ]
        refine take_list (i := 14) (v := ?_) rfl (by kernel_rfl) (by kernel_rfl) (by kernel_rfl) (fun _ _ _ h => h) (Or.inl ⟨by rfl, ?_⟩) (by assumption) ?_
        rotate_left
        · (intro w hSw; (try dsimp only at hSw); go_simp; try (with_reducible rfl))
        try simp only [Act.put, List.setIfInBounds_toArray, List.set_cons_zero, List.set_cons_succ]
        refine take_list (i := 15) (v := ?_) rfl (by kernel_rfl) (by kernel_rfl) (by kernel_rfl) (fun _ _ _ h => h) (Or.inl ⟨by rfl, ?_⟩) (by assumption) ?_
        rotate_left
        · (intro w hSw; (try dsimp only at hSw); go_simp; try (with_reducible rfl))
        try simp only [Act.put, List.setIfInBounds_toArray, List.set_cons_zero, List.set_cons_succ]
        refine wpAnyH_done (by kernel_rfl) ?_ _
        clear hHeld0
        go_wp2
        go_roundw
        case rel => exact ⟨k + 1, by omega, by go_num, by rw [HT.out, hd]; rfl, below_drew HB.out⟩
        case measure => simp [intOf]; omega
    · have HT := Lib.hid (show r.path.take k = r.path from List.take_of_length_le (by omega))
      have hk1 : ¬ (k : Int) < (r.path.length : Int) := by omega
      rw [HT.out]
      have PN := HPX.out _ HB.out
      have p1 := PN.pb.all.2.1
      clear hlt PN
      by_cases hc : (r.path.length : Int) < q.cap ∧ xb.as_ ≠ xa.as_ ∧ xb.as_ ∉ r.path
      · have ho : o = ⟨2, 0, xa.as_ :: r.path⟩ := by rw [HOV.out, if_pos hc]
        have hlp : (decide (xb.as_ = xa.as_) || decide (xb.as_ ∈ r.path)) = false := by simp [hc.2.1, hc.2.2]
        rw [hlp]
        have hq1 : ((r.path.length : Int) == q.cap) = false := by simp; omega
        have hq2 : (o.kind != 2) = false := by rw [ho]; rfl
        have hol : (o.path.length : Int) = (r.path.length : Int) + 1 := by rw [ho]; simp
        have hq3 : ((o.path.length : Int) != (r.path.length : Int) + 1) = false := by rw [hol]; simp
        have hw : IntKind.i64.wrap ((r.path.length : Int) + 1) = (r.path.length : Int) + 1 := IntWalk.i64_in _ (by omega)
        have ho0 : (0 : Int) < (o.path.length : Int) := by omega
        have hq4 : (xa.as_ != xa.as_) = false := by simp
        obtain ⟨b2, o2, e2, hb2, hc2⟩ := ((HPX.out _ HB.out).each (b5, (o, (A5, c5))) (by simp)).rt.1.one (i := 0) (x := .int .i64 xa.as_) (by rw [ho]; rfl)
        dsimp only at e2
        have HO := Lib.hid ho
        have HE2 := Lib.hid e2
        have HOL := Lib.hid hol
        have HS3 : Hid (∀ wy, Below wr.heap.size wr wy → (fun wy => wy.cell? ⟨bp, 3, none⟩ = some (.slice (some ⟨bn, on, none⟩) q.nodes.length h.cn) ∧ wy.cell? ⟨bn, on + na * 2 + 1, none⟩ = some (.int .i64 xa.as_) ∧ wy.cell? ⟨b5, 0, none⟩ = some (.int .i64 o.kind) ∧ wy.cell? ⟨b5, 2, none⟩ = some (.slice (some ⟨b2, o2, none⟩) o.path.length c5) ∧ wy.cell? ⟨b4, 2, none⟩ = some (.slice A4 r.path.length c4) ∧ wy.cell? ⟨b2, o2, none⟩ = some (.int .i64 xa.as_)) wy) := Lib.hid (fun wy hb => by
          obtain ⟨q3, qa, qb, t0, t1, t2, u0, u1, u2⟩ := HS.out _ (since_trans HB.out hb)
          rw [HE2.out] at u2
          exact ⟨q3, qa, u0, u2, t2, (hb.cell (p := ⟨b2, o2, none⟩) hb2).trans hc2⟩)
        rw [e2] at k2
        clear hc ho hol e2 hc2 hlp
        go_upto_region 19 with fail
        have ho0n : 0 < o.path.length := by omega
        refine wp_region_held_drew (S := (fun wy => wy.cell? ⟨bp, 3, none⟩ = some (.slice (some ⟨bn, on, none⟩) q.nodes.length h.cn) ∧ wy.cell? ⟨bn, on + na * 2 + 1, none⟩ = some (.int .i64 xa.as_) ∧ wy.cell? ⟨b5, 0, none⟩ = some (.int .i64 o.kind) ∧ wy.cell? ⟨b5, 2, none⟩ = some (.slice (some ⟨b2, o2, none⟩) o.path.length c5) ∧ wy.cell? ⟨b4, 2, none⟩ = some (.slice A4 r.path.length c4) ∧ wy.cell? ⟨b2, o2, none⟩ = some (.int .i64 xa.as_))) (by kernel_rfl) (HS3.out _ (below_drew (Below.refl _ _))) (fun hHeld0 => ?_)
        refine take_list (i := 0) (v := ?_) rfl (by kernel_rfl) (by kernel_rfl) (by kernel_rfl) (fun _ _ _ h => h) (Or.inl ⟨by rfl, ?_⟩) (by assumption) ?_
        rotate_left
        · (intro w hSw; (try dsimp only at hSw); go_simp; try (with_reducible rfl))
        try simp only [Act.put, List.setIfInBounds_toArray, List.set_cons_zero, List.set_cons_succ]
        refine take_list (i := 1) (v := ?_) rfl (by kernel_rfl) (by kernel_rfl) (by kernel_rfl) (fun _ _ _ h => h) (Or.inl ⟨by rfl, ?_⟩) (by assumption) ?_
        rotate_left
        · (intro w hSw; (try dsimp only at hSw); go_simp; try (with_reducible rfl))
        try simp only [Act.put, List.setIfInBounds_toArray, List.set_cons_zero, List.set_cons_succ]
        refine take_list (i := 2) (v := ?_) rfl (by kernel_rfl) (by kernel_rfl) (by kernel_rfl) (fun _ _ _ h => h) (Or.inl ⟨by rfl, ?_⟩) (by assumption) ?_
        rotate_left
        · (intro w hSw; (try dsimp only at hSw); go_simp; try (with_reducible rfl))
        try simp only [Act.put, List.setIfInBounds_toArray, List.set_cons_zero, List.set_cons_succ]
        refine take_list (i := 3) (v := ?_) rfl (by kernel_rfl) (by kernel_rfl) (by kernel_rfl) (fun _ _ _ h => h) (Or.inl ⟨by rfl, ?_⟩) (by assumption) ?_
        rotate_left
        · (intro w hSw; (try dsimp only at hSw); go_simp; try (with_reducible rfl))
        try simp only [Act.put, List.setIfInBounds_toArray, List.set_cons_zero, List.set_cons_succ]
        refine take_list (i := 4) (v := ?_) rfl (by kernel_rfl) (by kernel_rfl) (by kernel_rfl) (fun _ _ _ h => h) (Or.inl ⟨by rfl, ?_⟩) (by assumption) ?_
        rotate_left
        · (intro w hSw; (try dsimp only at hSw); go_simp; try (with_reducible rfl))
        try simp only [Act.put, List.setIfInBounds_toArray, List.set_cons_zero, List.set_cons_succ]
        refine take_list (i := 5) (v := ?_) rfl (by kernel_rfl) (by kernel_rfl) (by kernel_rfl) (fun _ _ _ h => h) (Or.inl ⟨by rfl, ?_⟩) (by assumption) ?_
        rotate_left
        · (intro w hSw; (try dsimp only at hSw); go_simp; try (with_reducible rfl))
        try simp only [Act.put, List.setIfInBounds_toArray, List.set_cons_zero, List.set_cons_succ]
        refine take_list (i := 6) (v := ?_) rfl (by kernel_rfl) (by kernel_rfl) (by kernel_rfl) (fun _ _ _ h => h) (Or.inl ⟨by rfl, ?_⟩) (by assumption) ?_
        rotate_left
        · (intro w hSw; (try dsimp only at hSw); go_simp; try (with_reducible rfl))
        try simp only [Act.put, List.setIfInBounds_toArray, List.set_cons_zero, List.set_cons_succ]
        refine take_list (i := 7) (v := ?_) rfl (by kernel_rfl) (by kernel_rfl) (by kernel_rfl) (fun _ _ _ h => h) (Or.inl ⟨by rfl, ?_⟩) (by assumption) ?_
        rotate_left
        · (intro w hSw; (try dsimp only at hSw); go_simp; try (with_reducible rfl))
        try simp only [Act.put, List.setIfInBounds_toArray, List.set_cons_zero, List.set_cons_succ]
        refine take_list (i := 8) (v := ?_) rfl (by kernel_rfl) (by kernel_rfl) (by kernel_rfl) (fun _ _ _ h => h) (Or.inl ⟨by rfl, ?_⟩) (by assumption) ?_
        rotate_left
        · (intro w hSw; (try dsimp only at hSw); go_simp; try (with_reducible rfl))
        try simp only [Act.put, List.setIfInBounds_toArray, List.set_cons_zero, List.set_cons_succ]
        refine take_list (i := 9) (v := ?_) rfl (by kernel_rfl) (by kernel_rfl) (by kernel_rfl) (fun _ _ _ h => h) (Or.inl ⟨by rfl, ?_⟩) (by assumption) ?_
        rotate_left
        · (intro w hSw; (try dsimp only at hSw); go_simp; try (with_reducible rfl))
        try simp only [Act.put, List.setIfInBounds_toArray, List.set_cons_zero, List.set_cons_succ]
        refine take_list (i := 10) (v := ?_) rfl (by kernel_rfl) (by kernel_rfl) (by kernel_rfl) (fun _ _ _ h => h) (Or.inl ⟨by rfl, ?_⟩) (by assumption) ?_
        rotate_left
        · (intro w hSw; (try dsimp only at hSw); go_simp; try (with_reducible rfl))
        try simp only [Act.put, List.setIfInBounds_toArray, List.set_cons_zero, List.set_cons_succ]
        refine take_list (i := 11) (v := ?_) rfl (by kernel_rfl) (by kernel_rfl) (by kernel_rfl) (fun _ _ _ h => h) (Or.inl ⟨by rfl, ?_⟩) (by assumption) ?_
        rotate_left
        · (intro w hSw; (try dsimp only at hSw); go_simp; try (with_reducible rfl))
        try simp only [Act.put, List.setIfInBounds_toArray, List.set_cons_zero, List.set_cons_succ]
        refine take_list (i := 12) (v := ?_) rfl (by kernel_rfl) (by kernel_rfl) (by kernel_rfl) (fun _ _ _ h => h) (Or.inl ⟨by rfl, ?_⟩) (by assumption) ?_
        rotate_left
        · (intro w hSw; (try dsimp only at hSw); go_simp; try (with_reducible rfl))
        try simp only [Act.put, List.setIfInBounds_toArray, List.set_cons_zero, List.set_cons_succ]
        refine take_list (i := 13) (v := ?_) rfl (by kernel_rfl) (by kernel_rfl) (by kernel_rfl) (fun _ _ _ h => h) (Or.inl ⟨by rfl, ?_⟩) (by assumption) ?_
        rotate_left
        · (intro w hSw; (try dsimp only at hSw); go_simp; try (with_reducible rfl))
        try simp only [Act.put, List.setIfInBounds_toArray, List.set_cons_zero, List.set_cons_succ]
        refine take_list (i := 14) (v := ?_) rfl (by kernel_rfl) (by kernel_rfl) (by kernel_rfl) (fun _ _ _ h => h) (Or.inl ⟨by rfl, ?_⟩) (by assumption) ?_
        rotate_left
        · (intro w hSw; (try dsimp only at hSw); go_simp; try (with_reducible rfl))
        try simp only [Act.put, List.setIfInBounds_toArray, List.set_cons_zero, List.set_cons_succ]
        refine take_list (i := 15) (v := ?_) rfl (by kernel_rfl) (by kernel_rfl) (by kernel_rfl) (fun _ _ _ h => h) (Or.inl ⟨by rfl, ?_⟩) (by assumption) ?_
        rotate_left
        · (intro w hSw; (try dsimp only at hSw); go_simp; try (with_reducible rfl))
        try simp only [Act.put, List.setIfInBounds_toArray, List.set_cons_zero, List.set_cons_succ]
        refine take_list (i := 16) (v := ?_) rfl (by kernel_rfl) (by kernel_rfl) (by kernel_rfl) (fun _ _ _ h => h) (Or.inl ⟨by rfl, ?_⟩) (by assumption) ?_
        rotate_left
        · (intro w hSw; (try dsimp only at hSw); go_simp; try (with_reducible rfl))
        try simp only [Act.put, List.setIfInBounds_toArray, List.set_cons_zero, List.set_cons_succ]
        refine take_list (i := 17) (v := ?_) rfl (by kernel_rfl) (by kernel_rfl) (by kernel_rfl) (fun _ _ _ h => h) (Or.inl ⟨by rfl, ?_⟩) (by assumption) ?_
        rotate_left
        · (intro w hSw; (try dsimp only at hSw); go_simp; try (with_reducible rfl))
        try simp only [Act.put, List.setIfInBounds_toArray, List.set_cons_zero, List.set_cons_succ]
        refine take_list (i := 18) (v := ?_) rfl (by kernel_rfl) (by kernel_rfl) (by kernel_rfl) (fun _ _ _ h => h) (Or.inl ⟨by rfl, ?_⟩) (by assumption) ?_
        rotate_left
        · (intro w hSw; (try dsimp only at hSw); go_simp; try (with_reducible rfl))
        try simp only [Act.put, List.setIfInBounds_toArray, List.set_cons_zero, List.set_cons_succ]
        refine take_list (i := 19) (v := ?_) rfl (by kernel_rfl) (by kernel_rfl) (by kernel_rfl) (fun _ _ _ h => h) (Or.inl ⟨by rfl, ?_⟩) (by assumption) ?_
        rotate_left
        · (intro w hSw; (try dsimp only at hSw); go_simp; try (with_reducible rfl))
        try simp only [Act.put, List.setIfInBounds_toArray, List.set_cons_zero, List.set_cons_succ]
        refine take_list (i := 20) (v := ?_) rfl (by kernel_rfl) (by kernel_rfl) (by kernel_rfl) (fun _ _ _ h => h) (Or.inl ⟨by rfl, ?_⟩) (by assumption) ?_
        rotate_left
        · (intro w hSw; (try dsimp only at hSw); go_simp; try (with_reducible rfl))
        try simp only [Act.put, List.setIfInBounds_toArray, List.set_cons_zero, List.set_cons_succ]
        refine take_list (i := 21) (v := ?_) rfl (by kernel_rfl) (by kernel_rfl) (by kernel_rfl) (fun _ _ _ h => h) (Or.inl ⟨by rfl, ?_⟩) (by assumption) ?_
        rotate_left
        · (intro w hSw; (try dsimp only at hSw); go_simp; try (with_reducible rfl))
        try simp only [Act.put, List.setIfInBounds_toArray, List.set_cons_zero, List.set_cons_succ]
        refine take_list (i := 22) (v := ?_) rfl (by kernel_rfl) (by kernel_rfl) (by kernel_rfl) (fun _ _ _ h => h) (Or.inl ⟨by rfl, ?_⟩) (by assumption) ?_
        rotate_left
        · (intro w hSw; (try dsimp only at hSw); go_simp; try (with_reducible rfl))
        try simp only [Act.put, List.setIfInBounds_toArray, List.set_cons_zero, List.set_cons_succ]
        refine take_list (i := 23) (v := ?_) rfl (by kernel_rfl) (by kernel_rfl) (by kernel_rfl) (fun _ _ _ h => h) (Or.inl ⟨by rfl, ?_⟩) (by assumption) ?_
        rotate_left
        · (intro w hSw; (try dsimp only at hSw); go_simp; try (with_reducible rfl))
        try simp only [Act.put, List.setIfInBounds_toArray, List.set_cons_zero, List.set_cons_succ]
        refine take_list (i := 24) (v := ?_) rfl (by kernel_rfl) (by kernel_rfl) (by kernel_rfl) (fun _ _ _ h => h) (Or.inl ⟨by rfl, ?_⟩) (by assumption) ?_
        rotate_left
        · (intro w hSw; (try dsimp only at hSw); go_simp; try (with_reducible rfl))
        try simp only [Act.put, List.setIfInBounds_toArray, List.set_cons_zero, List.set_cons_succ]
        refine take_list (i := 25) (v := ?_) rfl (by kernel_rfl) (by kernel_rfl) (by kernel_rfl) (fun _ _ _ h => h) (Or.inl ⟨by rfl, ?_⟩) (by assumption) ?_
        rotate_left
        · (intro w hSw; (try dsimp only at hSw); go_simp; try (with_reducible rfl))
        try simp only [Act.put, List.setIfInBounds_toArray, List.set_cons_zero, List.set_cons_succ]
        refine wpAnyH_done (by kernel_rfl) ?_ _
        clear hHeld0
        clear ho0n
        go_wp2_with fail
        go_loopw [16] (fun sk wx => ∃ k : Nat, k ≤ r.path.length ∧ sk = .int .i64 (k : Int) ∧ Below v7.heap.size v7 wx) (fun sk _ => r.path.length - (intOf sk).toNat)
        case atStart => exact ⟨0, Nat.zero_le _, rfl, below_drew HB.out⟩
        case round =>
          obtain ⟨k, hk, rfl, hB2⟩ := hrel
          have HB2 := Lib.hid hB2
          clear hB2 s3 sa sb r0 r1 r2 k0 k1 k2 p1
          obtain ⟨s3, sa, sb, r0, r1, r2, k0, k1, k2⟩ := HS.out _ HB2.out
          by_cases hlt : k < r.path.length
          · obtain ⟨y, hy⟩ : ∃ y, r.path[k]? = some y := ⟨_, List.getElem?_eq_getElem hlt⟩
            obtain ⟨b1, o1, e1, hb1, hc1⟩ := ((HPX.out _ HB2.out).each (b4, (r, (A4, c4))) (by simp)).rt.1.one (ints_at hy)
            obtain ⟨b2', o2', e2', hb2', hc2'⟩ := ((HPX.out _ HB2.out).each (b5, (o, (A5, c5))) (by simp)).rt.1.one (i := k + 1) (x := .int .i64 y) (by rw [HO.out]; simp [ints, hy])
            dsimp only at e1 e2'
            rw [HE2.out] at e2'
            injection e2' with e2'
            injection e2' with ea eb
            subst ea eb
            have HS4 : Hid (∀ wy, Below wr.heap.size wr wy → (fun wy => wy.cell? ⟨b5, 2, none⟩ = some (.slice (some ⟨b2, o2, none⟩) o.path.length c5) ∧ wy.cell? ⟨b4, 2, none⟩ = some (.slice (some ⟨b1, o1, none⟩) r.path.length c4) ∧ wy.cell? ⟨b2, o2 + (k + 1), none⟩ = some (.int .i64 y) ∧ wy.cell? ⟨b1, o1 + k, none⟩ = some (.int .i64 y)) wy) := Lib.hid (fun wy hb => by
              obtain ⟨q3, qa, qb, t0, t1, t2, u0, u1, u2⟩ := HS.out _ (since_trans HB2.out hb)
              rw [HE2.out] at u2
              rw [e1] at t2
              exact ⟨u2, t2, (hb.cell (p := ⟨b2, o2 + (k + 1), none⟩) hb2').trans hc2', (hb.cell (p := ⟨b1, o1 + k, none⟩) hb1).trans hc1⟩)
            rw [e1] at r2
            rw [HE2.out] at k2
            have hk0 : (0 : Int) ≤ (k : Int) := by omega
            have hk1 : (k : Int) < (r.path.length : Int) := by omega
            have hk2 : (0 : Int) ≤ (k : Int) + 1 := by omega
            have hk3 : (k : Int) + 1 < (o.path.length : Int) := by have := HOL.out; omega
            have hwk : IntKind.i64.wrap ((k : Int) + 1) = (k : Int) + 1 := IntWalk.i64_in _ (by omega)
            have hyy : (y != y) = false := by simp
            clear hy hc1 hlt hb1 hc2' hb2' e1
            go_wp2_with fail
            refine wp_region_held_drew (S := (fun wy => wy.cell? ⟨b5, 2, none⟩ = some (.slice (some ⟨b2, o2, none⟩) o.path.length c5) ∧ wy.cell? ⟨b4, 2, none⟩ = some (.slice (some ⟨b1, o1, none⟩) r.path.length c4) ∧ wy.cell? ⟨b2, o2 + (k + 1), none⟩ = some (.int .i64 y) ∧ wy.cell? ⟨b1, o1 + k, none⟩ = some (.int .i64 y))) (by kernel_rfl) (HS4.out _ (below_drew (Below.refl _ _))) (fun hHeld0 => ?_)
            refine take_list (i := 0) (v := ?_) rfl (by kernel_rfl) (by kernel_rfl) (by kernel_rfl) (fun _ _ _ h => h) (Or.inl ⟨by rfl, ?_⟩) (by assumption) ?_
            rotate_left
            · (intro w hSw; (try dsimp only at hSw); go_simp; try (with_reducible rfl))
            try simp only [Act.put, List.setIfInBounds_toArray, List.set_cons_zero, List.set_cons_succ]
            refine take_list (i := 1) (v := ?_) rfl (by kernel_rfl) (by kernel_rfl) (by kernel_rfl) (fun _ _ _ h => h) (Or.inl ⟨by rfl, ?_⟩) (by assumption) ?_
            rotate_left
            · (intro w hSw; (try dsimp only at hSw); go_simp; try (with_reducible rfl))
            try simp only [Act.put, List.setIfInBounds_toArray, List.set_cons_zero, List.set_cons_succ]
            refine take_list (i := 2) (v := ?_) rfl (by kernel_rfl) (by kernel_rfl) (by kernel_rfl) (fun _ _ _ h => h) (Or.inl ⟨by rfl, ?_⟩) (by assumption) ?_
            rotate_left
            · (intro w hSw; (try dsimp only at hSw); go_simp; try (with_reducible rfl))
            try simp only [Act.put, List.setIfInBounds_toArray, List.set_cons_zero, List.set_cons_succ]
            refine take_list (i := 3) (v := ?_) rfl (by kernel_rfl) (by kernel_rfl) (by kernel_rfl) (fun _ _ _ h => h) (Or.inl ⟨by rfl, ?_⟩) (by assumption) ?_
            rotate_left
            · (intro w hSw; (try dsimp only at hSw); go_simp; try (with_reducible rfl))
            try simp only [Act.put, List.setIfInBounds_toArray, List.set_cons_zero, List.set_cons_succ]
            refine take_list (i := 4) (v := ?_) rfl (by kernel_rfl) (by kernel_rfl) (by kernel_rfl) (fun _ _ _ h => h) (Or.inl ⟨by rfl, ?_⟩) (by assumption) ?_
            rotate_left
            · (intro w hSw; (try dsimp only at hSw); go_simp; try (with_reducible rfl))
            try simp only [Act.put, List.setIfInBounds_toArray, List.set_cons_zero, List.set_cons_succ]
            refine take_list (i := 5) (v := ?_) rfl (by kernel_rfl) (by kernel_rfl) (by kernel_rfl) (fun _ _ _ h => h) (Or.inl ⟨by rfl, ?_⟩) (by assumption) ?_
            rotate_left
            · (intro w hSw; (try dsimp only at hSw); go_simp; try (with_reducible rfl))
            try simp only [Act.put, List.setIfInBounds_toArray, List.set_cons_zero, List.set_cons_succ]
            refine take_list (i := 6) (v := ?_) rfl (by kernel_rfl) (by kernel_rfl) (by kernel_rfl) (fun _ _ _ h => h) (Or.inl ⟨by rfl, ?_⟩) (by assumption) ?_
            rotate_left
            · (intro w hSw; (try dsimp only at hSw); go_simp; try (with_reducible rfl))
            try simp only [Act.put, List.setIfInBounds_toArray, List.set_cons_zero, List.set_cons_succ]
            refine take_list (i := 7) (v := ?_) rfl (by kernel_rfl) (by kernel_rfl) (by kernel_rfl) (fun _ _ _ h => h) (Or.inl ⟨by rfl, ?_⟩) (by assumption) ?_
            rotate_left
            · (intro w hSw; (try dsimp only at hSw); go_simp; try (with_reducible rfl))
            try simp only [Act.put, List.setIfInBounds_toArray, List.set_cons_zero, List.set_cons_succ]
            refine take_list (i := 8) (v := ?_) rfl (by kernel_rfl) (by kernel_rfl) (by kernel_rfl) (fun _ _ _ h => h) (Or.inl ⟨by rfl, ?_⟩) (by assumption) ?_
            rotate_left
            · (intro w hSw; (try dsimp only at hSw); go_simp; try (with_reducible rfl))
            try simp only [Act.put, List.setIfInBounds_toArray, List.set_cons_zero, List.set_cons_succ]
            refine take_list (i := 9) (v := ?_) rfl (by kernel_rfl) (by kernel_rfl) (by kernel_rfl) (fun _ _ _ h => h) (Or.inl ⟨by rfl, ?_⟩) (by assumption) ?_
            rotate_left
            · (intro w hSw; (try dsimp only at hSw); go_simp; try (with_reducible rfl))
            try simp only [Act.put, List.setIfInBounds_toArray, List.set_cons_zero, List.set_cons_succ]
            refine take_list (i := 10) (v := ?_) rfl (by kernel_rfl) (by kernel_rfl) (by kernel_rfl) (fun _ _ _ h => h) (Or.inl ⟨by rfl, ?_⟩) (by assumption) ?_
            rotate_left
            · (intro w hSw; (try dsimp only at hSw); go_simp; try (with_reducible rfl))
            try simp only [Act.put, List.setIfInBounds_toArray, List.set_cons_zero, List.set_cons_succ]
            refine take_list (i := 11) (v := ?_) rfl (by kernel_rfl) (by kernel_rfl) (by kernel_rfl) (fun _ _ _ h => h) (Or.inl ⟨by rfl, ?_⟩) (by assumption) ?_
            rotate_left
            · (intro w hSw; (try dsimp only at hSw); go_simp; try (with_reducible rfl))
            try simp only [Act.put, List.setIfInBounds_toArray, List.set_cons_zero, List.set_cons_succ]
            refine wpAnyH_done (by kernel_rfl) ?_ _
            clear hHeld0
            go_wp2
            go_roundw
            case rel => exact ⟨k + 1, by omega, by go_num, below_drew HB2.out⟩
            case measure => simp [intOf]; omega
          · have hk1 : ¬ (k : Int) < (r.path.length : Int) := by omega
            have PN := Lib.hid (HPX.out _ HB2.out)
            obtain ⟨g0, g1, g2, g3, g4, g5, g6⟩ := PN.out.pb.all
            clear hlt s3 sa sb r0 r1 k0 k1 k2
            go_wp2_with fail
            refine (otherX_any q h i nb _ PN.out.net GD.out).mono ?_
            rintro e w8 ⟨rfl, hb8⟩
            rw [HOB.out]
            have P8 := Lib.hid (PN.out.call hb8)
            clear g0 g1 g2 g3 g4 g5 g6 r2 hb8
            go_wp2
            go_ret
            exact ⟨rfl, P8.out.pb.below⟩
      · have ho : o = rtNone := by rw [HOV.out, if_neg hc]
        have hq1 : (o.kind == 0) = true := by rw [ho]; rfl
        have hq2 : ((o.path.length : Int) == 0) = true := by rw [ho]; rfl
        have hor : (decide (xb.as_ = xa.as_) || decide (xb.as_ ∈ r.path)) = false → ((r.path.length : Int) == q.cap) = true := by
          intro h
          simp at h
          have : ¬ (r.path.length : Int) < q.cap := fun e => hc ⟨e, h.1, h.2⟩
          simp; omega
        have PN := Lib.hid (HPX.out _ HB.out)
        cases hd : (decide (xb.as_ = xa.as_) || decide (xb.as_ ∈ r.path)) with
        | true =>
          clear hor hc ho
          go_wp2
          go_ret
          exact ⟨rfl, PN.out.pb.below⟩
        | false =>
          have hq3 := hor hd
          clear hor hc ho
          go_wp2
          go_ret
          exact ⟨rfl, PN.out.pb.below⟩
end Go.Proofs.YtiehlnokidhgfaaGreat

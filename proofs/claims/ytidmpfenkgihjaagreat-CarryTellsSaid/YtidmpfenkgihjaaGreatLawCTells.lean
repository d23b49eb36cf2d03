/- The walk of backstaylaw07.CarryTells. -/
import Derived.Test.YtidmpfenkgihjaaGreatTells
import Derived.Test.YtidmpfenkgihjaaGreatBadC
import Derived.Test.YtidmpfenkgihjaaGreatWildV
import Derived.Test.YtidmpfenkgihjaaGreatNetB
import Derived.Test.YtidmpfenkgihjaaGreatAwake7
import Derived.Test.YtidmpfenkgihjaaGreatOpenRt
namespace Go.Proofs.YtidmpfenkgihjaaGreat
set_option linter.unusedSimpArgs false
set_option linter.unusedVariables false
open Go.RowKit

/-- The rows of networks, any route's box, the raw route. -/
structure CO (w wx : World) (bs : Nat) (p1 : Net) (h1 : Hd) (p2 : Net) (h2 : Hd) (ba : Nat) (ra : Rt) (Aa : Option Addr) (Ca : Nat) (a1 : Option Addr) (c1 : Nat) (l1 : List Int) : Prop where
  gs : GS w wx bs p1 h1 p2 h2
  any : Box wx ba ra Aa Ca
  raw : InRow wx a1 c1 l1
/-- .. a network's box. -/
structure CB (w wx : World) (bs : Nat) (p1 : Net) (h1 : Hd) (p2 : Net) (h2 : Hd) (ba : Nat) (ra : Rt) (Aa : Option Addr) (Ca : Nat) (a1 : Option Addr) (c1 : Nat) (l1 : List Int) (b : Nat) (p : Net) (h : Hd) : Prop where
  gb : GB w wx bs p1 h1 p2 h2 b p h
  any : Box wx ba ra Aa Ca
  raw : InRow wx a1 c1 l1
section
variable {w wx wy : World} {bs : Nat} {p1 p2 : Net} {h1 h2 : Hd} {ba : Nat} {ra : Rt} {Aa : Option Addr} {Ca : Nat} {a1 : Option Addr} {c1 : Nat} {l1 : List Int} {b : Nat} {p : Net} {h : Hd}
theorem CO.call (a : CO w wx bs p1 h1 p2 h2 ba ra Aa Ca a1 c1 l1) (hb : Below wx.heap.size wx wy) : CO w wy bs p1 h1 p2 h2 ba ra Aa Ca a1 c1 l1 := ⟨a.gs.call hb, a.any.call hb, a.raw.call hb⟩
theorem CB.call (a : CB w wx bs p1 h1 p2 h2 ba ra Aa Ca a1 c1 l1 b p h) (hb : Below wx.heap.size wx wy) : CB w wy bs p1 h1 p2 h2 ba ra Aa Ca a1 c1 l1 b p h := ⟨a.gb.call hb, a.any.call hb, a.raw.call hb⟩
theorem CB.co (a : CB w wx bs p1 h1 p2 h2 ba ra Aa Ca a1 c1 l1 b p h) : CO w wx bs p1 h1 p2 h2 ba ra Aa Ca a1 c1 l1 := ⟨a.gb.gs, a.any, a.raw⟩
end
theorem block_keep {wx wy : World} {b : Nat} {o : Obj} (h : wx.heap[b]? = some o) (hb : Below wx.heap.size wx wy) : wy.heap[b]? = some o := (hb.block _ (lt_heap h)).trans h
attribute [local go_sem ↓] Go.wp_at_zero Go.wp_at_succ
set_option maxRecDepth 100000 in
set_option maxHeartbeats 8000000 in
theorem carryTells_walk (a0 a1 : Option Addr) (c0 c1 : Nat) (l0 l1 : List Int) (n3 n4 n5 : Int) (ra : Rt) (Aa : Option Addr) (Ca : Nat) (w : World) (h0 : InRow w a0 c0 l0) (h1 : InRow w a1 c1 l1) (h2 : InRow w Aa Ca ra.path) (k3 : In64 n3) (k4 : In64 n4) (k5 : In64 n5) :
    Calls Tryz.prog 3 #[.slice a0 l0.length c0, .slice a1 l1.length c1, .agg #[.int .i64 ra.kind, .int .i64 ra.cost, .slice Aa ra.path.length Ca], .int .i64 n3, .int .i64 n4, .int .i64 n5] w fun e w' => e = .returned (.bool true) ∧ Below w.heap.size w w' := by
  have I3 := Lib.hid k3
  have I4 := Lib.hid k4
  have I5 := Lib.hid k5
  have hal : Below w.heap.size w (w.alloc (.cells #[.int .i64 ra.kind, .int .i64 ra.cost, .slice Aa ra.path.length Ca] 24)) := (Below.refl _ _).alloc (Nat.le_refl _) _
  have H0 := Lib.hid (h0.call hal)
  have H1 := Lib.hid (h1.call hal)
  have X0 : Hid (Box (w.alloc (.cells #[.int .i64 ra.kind, .int .i64 ra.cost, .slice Aa ra.path.length Ca] 24)) w.heap.size ra Aa Ca) := Lib.hid (Box.new ⟨h2.rd, h2.le, h2.max⟩)
  have B0 := Lib.hid hal
  clear k3 k4 k5 h0 h1 h2 hal
  go_enter Tryz.func3, Tryz.ntmps3
  go_wp2_with fail
  generalize (w.alloc (.cells #[.int .i64 ra.kind, .int .i64 ra.cost, .slice Aa ra.path.length Ca] 24)) = wa at *
  obtain ⟨ba, hba⟩ : ∃ ba, ba = w.heap.size := ⟨_, rfl⟩
  have HBA := Lib.hid hba
  clear hba
  refine (awake7 _).mono ?_
  rintro e w1 ⟨rfl, hb1⟩
  have J0 := Lib.hid (H0.out.call hb1)
  have J1 := Lib.hid (H1.out.call hb1)
  have X1 := Lib.hid (X0.out.call hb1)
  have B1 := Lib.hid (since_trans B0.out hb1)
  clear hb1 H0 H1 X0 B0
  go_wp2_with fail
  refine (net_any _ _ l0 c0 J0.out.len J0.out.le J0.out.rd J0.out.in64).mono ?_
  rintro e w2 ⟨p1, h1, rfl, hok, hown, hb⟩
  have K0 := Lib.hid (J0.out.call hb)
  have K1 := Lib.hid (J1.out.call hb)
  have X2 := Lib.hid (X1.out.call hb)
  have B2 := Lib.hid (since_trans B1.out hb)
  have N2 := Lib.hid hown.net
  have S1 := Lib.hid hok.good.small
  clear hb hok hown J0 J1 X1 B1
  unfold netV netVal
  go_wp2_with fail
  refine (wild_any _ _ l0 c0 K0.out.len K0.out.le K0.out.rd K0.out.in64).mono ?_
  rintro e w3 ⟨p2, h2, rfl, hs2, hn2, hb⟩
  have S2 := Lib.hid hs2
  have hba3 : Below w3.heap.size w3 (w3.alloc (.cells (netCells p1 h1 ++ netCells p2 h2) 31)) := (Below.refl _ _).alloc (Nat.le_refl _) _
  have G0 : Hid (CO w (w3.alloc (.cells (netCells p1 h1 ++ netCells p2 h2) 31)) w3.heap.size p1 h1 p2 h2 w.heap.size ra Aa Ca a1 c1 l1) := Lib.hid
    ⟨⟨since_alloc (since_trans B2.out hb) _, heap_alloc_new _ _, (N2.out.call hb).call hba3, hn2.call hba3⟩, (X2.out.call hb).call hba3, (K1.out.call hb).call hba3⟩
  clear hb hs2 hn2 N2 K0 K1 X2 B2 hba3
  unfold netV netVal
  have G1 : Hid (CO w (w3.alloc (.cells #[.int .i64 p1.proto, .int .i64 p1.cap, .int .i64 p1.k, .slice h1.an p1.nodes.length h1.cn, .slice h1.al p1.links.length h1.cl, .slice h1.ad p1.dests.length h1.cd, .slice h1.ac p1.checks.length h1.cc, .int .i64 p2.proto, .int .i64 p2.cap, .int .i64 p2.k, .slice h2.an p2.nodes.length h2.cn, .slice h2.al p2.links.length h2.cl, .slice h2.ad p2.dests.length h2.cd, .slice h2.ac p2.checks.length h2.cc] 31)) w3.heap.size p1 h1 p2 h2 w.heap.size ra Aa Ca a1 c1 l1) := G0
  clear G0
  go_wp2_with fail
  generalize (w3.alloc (.cells #[.int .i64 p1.proto, .int .i64 p1.cap, .int .i64 p1.k, .slice h1.an p1.nodes.length h1.cn, .slice h1.al p1.links.length h1.cl, .slice h1.ad p1.dests.length h1.cd, .slice h1.ac p1.checks.length h1.cc, .int .i64 p2.proto, .int .i64 p2.cap, .int .i64 p2.k, .slice h2.an p2.nodes.length h2.cn, .slice h2.al p2.links.length h2.cl, .slice h2.ad p2.dests.length h2.cd, .slice h2.ac p2.checks.length h2.cc] 31)) = w4 at *
  generalize w3.heap.size = bs at *
  go_loopw [29] (fun si wx => ∃ i : Nat, i ≤ 2 ∧ si = .int .i64 (i : Int) ∧ CO w wx bs p1 h1 p2 h2 w.heap.size ra Aa Ca a1 c1 l1) (fun si _ => 2 - (intOf si).toNat)
  case atStart => exact ⟨0, by omega, rfl, G1.out⟩
  case round =>
    clear G1
    obtain ⟨i, hi, rfl, hG⟩ := hrel
    have GX := Lib.hid hG
    clear hG
    by_cases hlt : i < 2
    rotate_left
    · have hi2 : i = 2 := by omega
      subst hi2
      clear hlt hi
      go_wp2
      go_ret
      exact ⟨rfl, GX.out.gs.below⟩
    · go_upto_region 4 with fail
      go_cut [15] (fun s wx => ∃ (b : Nat) (p : Net) (h : Hd), s = .pointer (some ⟨b, 0, none⟩) ∧ CB w wx bs p1 h1 p2 h2 w.heap.size ra Aa Ca a1 c1 l1 b p h ∧ Small p)
      case first =>
        have hi01 : i = 0 ∨ i = 1 := by omega
        rcases hi01 with rfl | rfl
        · obtain ⟨g0, g1, g2, g3, g4, g5, g6⟩ := GX.out.gs.at1
          have hb : Below wr.heap.size wr (wr.alloc (.cells (netCells p1 h1) 31)) := (Below.refl _ _).alloc (Nat.le_refl _) _
          have GN : Hid (CB w (wr.alloc (.cells (netCells p1 h1) 31)) bs p1 h1 p2 h2 w.heap.size ra Aa Ca a1 c1 l1 wr.heap.size p1 h1) := Lib.hid ⟨⟨GX.out.gs.call hb, heap_alloc_new _ _, GX.out.gs.n1.call hb⟩, GX.out.any.call hb, GX.out.raw.call hb⟩
          unfold netCells at GN
          clear hb
          go_wp2_with fail
          go_meet
          case rel => exact ⟨_, p1, h1, rfl, GN.out, S1.out⟩
        · obtain ⟨g0, g1, g2, g3, g4, g5, g6⟩ := GX.out.gs.at2
          have hb : Below wr.heap.size wr (wr.alloc (.cells (netCells p2 h2) 31)) := (Below.refl _ _).alloc (Nat.le_refl _) _
          have GN : Hid (CB w (wr.alloc (.cells (netCells p2 h2) 31)) bs p1 h1 p2 h2 w.heap.size ra Aa Ca a1 c1 l1 wr.heap.size p2 h2) := Lib.hid ⟨⟨GX.out.gs.call hb, heap_alloc_new _ _, GX.out.gs.n2.call hb⟩, GX.out.any.call hb, GX.out.raw.call hb⟩
          unfold netCells at GN
          clear hb
          go_wp2_with fail
          go_meet
          case rel => exact ⟨_, p2, h2, rfl, GN.out, S2.out⟩
      case rest =>
      clear GX
      obtain ⟨b, p, h, rfl, hG, hsm⟩ := hcut
      have GX := Lib.hid hG
      have SP := Lib.hid hsm
      clear hG hsm
      go_wp2_with fail
      refine (pick7_any n3 10 _ I3.out (by omega) (by omega)).mono ?_
      rintro e w' ⟨rfl, rfl⟩
      go_wp2_with fail
      refine (pick7_any n4 8 _ I4.out (by omega) (by omega)).mono ?_
      rintro e w' ⟨rfl, rfl⟩
      go_wp2_with fail
      refine (pick7_any n5 3 _ I5.out (by omega) (by omega)).mono ?_
      rintro e w' ⟨rfl, rfl⟩
      generalize pickV n3 10 = m3
      generalize pickV n4 8 = m4
      generalize pickV n5 3 = m5
      go_wp2_with fail
      have R1 : Hid (CB w (wc.alloc (.cells #[.int .i64 n3, .int .i64 n4, .int .i64 n5, .int .i64 m3, .int .i64 m4, .int .i64 m5] 34)) bs p1 h1 p2 h2 w.heap.size ra Aa Ca a1 c1 l1 b p h ∧ (wc.alloc (.cells #[.int .i64 n3, .int .i64 n4, .int .i64 n5, .int .i64 m3, .int .i64 m4, .int .i64 m5] 34)).heap[wc.heap.size]? = some (.cells #[.int .i64 n3, .int .i64 n4, .int .i64 n5, .int .i64 m3, .int .i64 m4, .int .i64 m5] 34 (0, 0))) := Lib.hid ⟨GX.out.call ((Below.refl _ _).alloc (Nat.le_refl _) _), heap_alloc_new _ _⟩
      clear GX
      generalize (wc.alloc (.cells #[.int .i64 n3, .int .i64 n4, .int .i64 n5, .int .i64 m3, .int .i64 m4, .int .i64 m5] 34)) = wv at *
      generalize wc.heap.size = br at *
      go_loopw [46] (fun sj wx => ∃ j : Nat, j ≤ 2 ∧ sj = .int .i64 (j : Int) ∧ CB w wx bs p1 h1 p2 h2 w.heap.size ra Aa Ca a1 c1 l1 b p h ∧ wx.heap[br]? = some (.cells #[.int .i64 n3, .int .i64 n4, .int .i64 n5, .int .i64 m3, .int .i64 m4, .int .i64 m5] 34 (0, 0))) (fun sj _ => 2 - (intOf sj).toNat)
      case atStart => exact ⟨0, by omega, rfl, R1.out⟩
      case round =>
        clear R1
        obtain ⟨j, hj, rfl, hG, hR⟩ := hrel
        have GX := Lib.hid hG
        have RX := Lib.hid hR
        clear hG hR
        by_cases hjt : j < 2
        rotate_left
        · have hj2 : j = 2 := by omega
          subst hj2
          clear hjt hj
          go_wp2_with fail
          go_roundw
          case rel => exact ⟨i + 1, by omega, by go_num, GX.out.co⟩
          case measure => simp [intOf]; omega
        · go_upto_region 7 with fail
          go_cut [17] (fun s wx => ∃ (b2 : Nat) (x0 x1 x2 : Int), s = .pointer (some ⟨b2, 0, none⟩) ∧ CB w wx bs p1 h1 p2 h2 w.heap.size ra Aa Ca a1 c1 l1 b p h ∧ wx.heap[br]? = some (.cells #[.int .i64 n3, .int .i64 n4, .int .i64 n5, .int .i64 m3, .int .i64 m4, .int .i64 m5] 34 (0, 0)) ∧ wx.heap[b2]? = some (.cells #[.int .i64 x0, .int .i64 x1, .int .i64 x2] 34 (0, 0)))
          case first =>
            have hj01 : j = 0 ∨ j = 1 := by omega
            have RR := RX.out
            have e0 := cell_of_row _ _ 0 _ _ _ RR
            have e1 := cell_of_row _ _ 1 _ _ _ RR
            have e2 := cell_of_row _ _ 2 _ _ _ RR
            have e3 := cell_of_row _ _ 3 _ _ _ RR
            have e4 := cell_of_row _ _ 4 _ _ _ RR
            have e5 := cell_of_row _ _ 5 _ _ _ RR
            simp only [List.getElem?_toArray, List.getElem?_cons_zero, List.getElem?_cons_succ] at e0 e1 e2 e3 e4 e5
            have GA := Lib.hid (fun o => GX.out.call ((Below.refl _ _).alloc (Nat.le_refl _) o))
            have RA := Lib.hid (fun o => (Below.heap_alloc wr o br (lt_heap RX.out)).trans RX.out)
            clear RR
            rcases hj01 with rfl | rfl
            · go_wp2_with fail
              go_meet
              case rel => exact ⟨_, n3, n4, n5, rfl, GA.out _, RA.out _, heap_alloc_new _ _⟩
            · go_wp2_with fail
              go_meet
              case rel => exact ⟨_, m3, m4, m5, rfl, GA.out _, RA.out _, heap_alloc_new _ _⟩
          case rest =>
          clear GX RX
          obtain ⟨b2, x0, x1, x2, rfl, hG, hR, hX⟩ := hcut
          have GX := Lib.hid hG
          have RX := Lib.hid hR
          have HX := Lib.hid hX
          clear hR hX
          obtain ⟨g0, g1, g2, g3, g4, g5, g6⟩ := hG.gb.all
          have e1 := cell_of_row _ _ 1 _ _ _ HX.out
          have e2 := cell_of_row _ _ 2 _ _ _ HX.out
          simp only [List.getElem?_toArray, List.getElem?_cons_zero, List.getElem?_cons_succ] at e1 e2
          clear hG
          go_wp2_with fail
          refine (own_gen p h x2 x1 _ GX.out.gb.net SP.out).mono ?_
          rintro e w5 ⟨rfl, hb⟩
          have OWN : Hid (∀ wy, Below wc.heap.size wc wy → Calls Tryz.prog 11 #[.agg #[.int .i64 p.proto, .int .i64 p.cap, .int .i64 p.k, .slice h.an p.nodes.length h.cn, .slice h.al p.links.length h.cl, .slice h.ad p.dests.length h.cd, .slice h.ac p.checks.length h.cc], .int .i64 x2, .int .i64 x1] wy fun e w' => e = .returned (rtV (rownG p x2 x1) none 0) ∧ Below wy.heap.size wy w') := Lib.hid (fun wy hb => rown_any p h x2 x1 wy (GX.out.call hb).gb.net SP.out)
          have hop : (rownG p x2 x1).path = [] := by unfold rownG; split; unfold ownR; split; unfold rtOwn; split <;> rfl; rfl; rfl
          generalize rownG p x2 x1 = ro at *
          have HRO : Hid (∀ wy : World, RtR wy wy.heap.size ro none 0) := Lib.hid (fun wy => by
            obtain ⟨k, co, pa⟩ := ro
            simp only at hop
            subst hop
            exact rtR_none)
          clear hop
          unfold rtV
          have G5 : Hid (CB w (w5.alloc (.cells #[.int .i64 ro.kind, .int .i64 ro.cost, .slice none ro.path.length 0] 24)) bs p1 h1 p2 h2 w.heap.size ra Aa Ca a1 c1 l1 b p h ∧ (w5.alloc (.cells #[.int .i64 ro.kind, .int .i64 ro.cost, .slice none ro.path.length 0] 24)).heap[br]? = some (.cells #[.int .i64 n3, .int .i64 n4, .int .i64 n5, .int .i64 m3, .int .i64 m4, .int .i64 m5] 34 (0, 0)) ∧ (w5.alloc (.cells #[.int .i64 ro.kind, .int .i64 ro.cost, .slice none ro.path.length 0] 24)).heap[b2]? = some (.cells #[.int .i64 x0, .int .i64 x1, .int .i64 x2] 34 (0, 0)) ∧
              Box (w5.alloc (.cells #[.int .i64 ro.kind, .int .i64 ro.cost, .slice none ro.path.length 0] 24)) w5.heap.size ro none 0 ∧ Below wc.heap.size wc (w5.alloc (.cells #[.int .i64 ro.kind, .int .i64 ro.cost, .slice none ro.path.length 0] 24))) := Lib.hid
            ⟨GX.out.call (since_alloc hb _), block_keep RX.out (since_alloc hb _), block_keep HX.out (since_alloc hb _), Box.new (HRO.out _), since_alloc hb _⟩
          clear g0 g1 g2 g3 g4 g5 g6 e1 e2 hb
          go_upto_region 9 with fail
          generalize (w5.alloc (.cells #[.int .i64 ro.kind, .int .i64 ro.cost, .slice none ro.path.length 0] 24)) = w6 at *
          generalize w5.heap.size = bo at *
          have HC : Hid (∀ wy, Below w6.heap.size w6 wy → (wy.cell? ⟨b, 0, none⟩ = some (.int .i64 p.proto) ∧ wy.cell? ⟨b, 1, none⟩ = some (.int .i64 p.cap) ∧ wy.cell? ⟨b, 2, none⟩ = some (.int .i64 p.k) ∧ wy.cell? ⟨b, 3, none⟩ = some (.slice h.an p.nodes.length h.cn) ∧ wy.cell? ⟨b, 4, none⟩ = some (.slice h.al p.links.length h.cl) ∧ wy.cell? ⟨b, 5, none⟩ = some (.slice h.ad p.dests.length h.cd) ∧ wy.cell? ⟨b, 6, none⟩ = some (.slice h.ac p.checks.length h.cc)) ∧ (wy.cell? ⟨b2, 0, none⟩ = some (.int .i64 x0) ∧ wy.cell? ⟨b2, 1, none⟩ = some (.int .i64 x1) ∧ wy.cell? ⟨b2, 2, none⟩ = some (.int .i64 x2)) ∧ (wy.cell? ⟨bo, 0, none⟩ = some (.int .i64 ro.kind) ∧ wy.cell? ⟨bo, 1, none⟩ = some (.int .i64 ro.cost) ∧ wy.cell? ⟨bo, 2, none⟩ = some (.slice none ro.path.length 0)) ∧ (wy.cell? ⟨w.heap.size, 0, none⟩ = some (.int .i64 ra.kind) ∧ wy.cell? ⟨w.heap.size, 1, none⟩ = some (.int .i64 ra.cost) ∧ wy.cell? ⟨w.heap.size, 2, none⟩ = some (.slice Aa ra.path.length Ca))) := Lib.hid (fun wy hb => by
            have hx := block_keep G5.out.2.2.1 hb
            exact ⟨(G5.out.1.call hb).gb.all, ⟨cell_of_row wy _ 0 _ _ _ hx, cell_of_row wy _ 1 _ _ _ hx, cell_of_row wy _ 2 _ _ _ hx⟩, (G5.out.2.2.2.1.call hb).at_, (G5.out.1.call hb).any.at_⟩)
          clear GX RX HX
          go_cut [64] (fun s wx => s = .bool false ∧ Below w6.heap.size w6 wx)
          case first =>
            have CS : Hid (∀ wy, Calls Tryz.prog 10 #[.agg #[.int .i64 ro.kind, .int .i64 ro.cost, .slice none ro.path.length 0], .agg #[.int .i64 ro.kind, .int .i64 ro.cost, .slice none ro.path.length 0]] wy fun e w' => e = .returned (.bool true) ∧ Below wy.heap.size wy w') := Lib.hid (fun wy => (refSame_any ro ro none none 0 0 wy (HRO.out _) (HRO.out _)).mono fun e w' ⟨g1, g2⟩ => ⟨by rw [g1]; simp, g2⟩)
            have CO2 : Hid (∀ wy, Below w6.heap.size w6 wy → Calls Tryz.prog 11 #[.agg #[.int .i64 p.proto, .int .i64 p.cap, .int .i64 p.k, .slice h.an p.nodes.length h.cn, .slice h.al p.links.length h.cl, .slice h.ad p.dests.length h.cd, .slice h.ac p.checks.length h.cc], .int .i64 x2, .int .i64 x1] wy fun e w' => e = .returned (.agg #[.int .i64 ro.kind, .int .i64 ro.cost, .slice none ro.path.length 0]) ∧ Below wy.heap.size wy w') := Lib.hid (fun wy hb => OWN.out wy (since_trans G5.out.2.2.2.2 hb))
            have hb0 : Below w6.heap.size w6 w6.drew := below_drew (Below.refl _ _)
            refine wp_region_held_drew (S := (fun wy => (wy.cell? ⟨b, 0, none⟩ = some (.int .i64 p.proto) ∧ wy.cell? ⟨b, 1, none⟩ = some (.int .i64 p.cap) ∧ wy.cell? ⟨b, 2, none⟩ = some (.int .i64 p.k) ∧ wy.cell? ⟨b, 3, none⟩ = some (.slice h.an p.nodes.length h.cn) ∧ wy.cell? ⟨b, 4, none⟩ = some (.slice h.al p.links.length h.cl) ∧ wy.cell? ⟨b, 5, none⟩ = some (.slice h.ad p.dests.length h.cd) ∧ wy.cell? ⟨b, 6, none⟩ = some (.slice h.ac p.checks.length h.cc)) ∧ (wy.cell? ⟨b2, 0, none⟩ = some (.int .i64 x0) ∧ wy.cell? ⟨b2, 1, none⟩ = some (.int .i64 x1) ∧ wy.cell? ⟨b2, 2, none⟩ = some (.int .i64 x2)) ∧ (wy.cell? ⟨bo, 0, none⟩ = some (.int .i64 ro.kind) ∧ wy.cell? ⟨bo, 1, none⟩ = some (.int .i64 ro.cost) ∧ wy.cell? ⟨bo, 2, none⟩ = some (.slice none ro.path.length 0)) ∧ (wy.cell? ⟨w.heap.size, 0, none⟩ = some (.int .i64 ra.kind) ∧ wy.cell? ⟨w.heap.size, 1, none⟩ = some (.int .i64 ra.cost) ∧ wy.cell? ⟨w.heap.size, 2, none⟩ = some (.slice Aa ra.path.length Ca)))) (by kernel_rfl) (HC.out _ hb0) (fun hHeld0 => ?_)
            refine take_list (i := 0) (v := ?_) rfl (by kernel_rfl) (by kernel_rfl) (by kernel_rfl) (fun _ _ _ h => h) (Or.inl ⟨by rfl, ?_⟩) (by assumption) ?_
            rotate_left
            · (intro w hSw; (try dsimp only at hSw); go_simp; try (with_reducible rfl))
            try simp only [Act.put, List.setIfInBounds_toArray, List.set_cons_zero, List.set_cons_succ]
            refine take_list (i := 1) (v := ?_) rfl (by kernel_rfl) (by kernel_rfl) (by kernel_rfl) (fun _ _ _ h => h) (Or.inl ⟨by rfl, ?_⟩) (by assumption) ?_
            rotate_left
            · (intro w hSw; (try dsimp only at hSw); go_simp; try (with_reducible rfl))
            try simp only [Act.put, List.setIfInBounds_toArray, List.set_cons_zero, List.set_cons_succ]
            refine take_list (i := 2) (v := ?_) rfl (by kernel_rfl) (by kernel_rfl) (by kernel_rfl) (fun _ _ _ h => h) (Or.inl ⟨by rfl, ?_⟩) (by assumption) ?_
            rotate_left
            · (intro w hSw; (try dsimp only at hSw); go_simp; try (with_reducible rfl))
            try simp only [Act.put, List.setIfInBounds_toArray, List.set_cons_zero, List.set_cons_succ]
            refine take_list (i := 3) (v := ?_) rfl (by kernel_rfl) (by kernel_rfl) (by kernel_rfl) (fun _ _ _ h => h) (Or.inl ⟨by rfl, ?_⟩) (by assumption) ?_
            rotate_left
            · (intro w hSw; (try dsimp only at hSw); go_simp; try (with_reducible rfl))
            try simp only [Act.put, List.setIfInBounds_toArray, List.set_cons_zero, List.set_cons_succ]
            refine take_list (i := 4) (v := ?_) rfl (by kernel_rfl) (by kernel_rfl) (by kernel_rfl) (fun _ _ _ h => h) (Or.inl ⟨by rfl, ?_⟩) (by assumption) ?_
            rotate_left
            · (intro w hSw; (try dsimp only at hSw); go_simp; try (with_reducible rfl))
            try simp only [Act.put, List.setIfInBounds_toArray, List.set_cons_zero, List.set_cons_succ]
            refine take_list (i := 5) (v := ?_) rfl (by kernel_rfl) (by kernel_rfl) (by kernel_rfl) (fun _ _ _ h => h) (Or.inl ⟨by rfl, ?_⟩) (by assumption) ?_
            rotate_left
            · (intro w hSw; (try dsimp only at hSw); go_simp; try (with_reducible rfl))
            try simp only [Act.put, List.setIfInBounds_toArray, List.set_cons_zero, List.set_cons_succ]
            refine wpAnyH_ready (rs := [6]) (by kernel_rfl) (by simp) ?_
            refine cons_list rfl (fun K hK => ?_) AllReadyH.nil
            go_simp
            (go_at_call 11; refine (CO2.out _ hb0).mono ?_; rintro e wq1 ⟨rfl, hc1⟩; have hb1 := since_trans hb0 hc1)
            refine hK.out _ _ (HC.out _ (by assumption)) (fun hHeld1 => ?_)
            clear hK K hHeld0
            try simp only [Act.put, List.setIfInBounds_toArray, List.set_cons_zero, List.set_cons_succ]
            refine wpAnyH_ready (rs := [7]) (by kernel_rfl) (by simp) ?_
            refine cons_list rfl (fun K hK => ?_) AllReadyH.nil
            go_simp
            (go_at_call 10; refine (CS.out _).mono ?_; rintro e wq2 ⟨rfl, hc2⟩; have hb2 := since_trans hb1 hc2)
            refine hK.out _ _ (HC.out _ (by assumption)) (fun hHeld2 => ?_)
            clear hK K hHeld1
            try simp only [Act.put, List.setIfInBounds_toArray, List.set_cons_zero, List.set_cons_succ]
            refine take_list (i := 8) (v := ?_) rfl (by kernel_rfl) (by kernel_rfl) (by kernel_rfl) (fun _ _ _ h => h) (Or.inl ⟨by rfl, ?_⟩) (by assumption) ?_
            rotate_left
            · (intro w hSw; (try dsimp only at hSw); go_simp; try (with_reducible rfl))
            try simp only [Act.put, List.setIfInBounds_toArray, List.set_cons_zero, List.set_cons_succ]
            refine wpAnyH_done (by kernel_rfl) ?_ _
            clear hHeld2
            go_wp2_with fail
            go_meet
            case rel => exact ⟨rfl, hb2⟩
          case rest =>
          obtain ⟨rfl, hbc⟩ := hcut
          have G6 : Hid (CB w wc bs p1 h1 p2 h2 w.heap.size ra Aa Ca a1 c1 l1 b p h ∧ wc.heap[br]? = some (.cells #[.int .i64 n3, .int .i64 n4, .int .i64 n5, .int .i64 m3, .int .i64 m4, .int .i64 m5] 34 (0, 0)) ∧ wc.heap[b2]? = some (.cells #[.int .i64 x0, .int .i64 x1, .int .i64 x2] 34 (0, 0)) ∧ Box wc bo ro none 0) := Lib.hid ⟨G5.out.1.call hbc, block_keep G5.out.2.1 hbc, block_keep G5.out.2.2.1 hbc, G5.out.2.2.2.1.call hbc⟩
          clear G5 hbc HC OWN
          go_upto_region 11 with fail
          have HC : Hid (∀ wy, Below wc.heap.size wc wy → (wy.cell? ⟨b, 0, none⟩ = some (.int .i64 p.proto) ∧ wy.cell? ⟨b, 1, none⟩ = some (.int .i64 p.cap) ∧ wy.cell? ⟨b, 2, none⟩ = some (.int .i64 p.k) ∧ wy.cell? ⟨b, 3, none⟩ = some (.slice h.an p.nodes.length h.cn) ∧ wy.cell? ⟨b, 4, none⟩ = some (.slice h.al p.links.length h.cl) ∧ wy.cell? ⟨b, 5, none⟩ = some (.slice h.ad p.dests.length h.cd) ∧ wy.cell? ⟨b, 6, none⟩ = some (.slice h.ac p.checks.length h.cc)) ∧ (wy.cell? ⟨bo, 0, none⟩ = some (.int .i64 ro.kind) ∧ wy.cell? ⟨bo, 1, none⟩ = some (.int .i64 ro.cost) ∧ wy.cell? ⟨bo, 2, none⟩ = some (.slice none ro.path.length 0)) ∧ (wy.cell? ⟨w.heap.size, 0, none⟩ = some (.int .i64 ra.kind) ∧ wy.cell? ⟨w.heap.size, 1, none⟩ = some (.int .i64 ra.cost) ∧ wy.cell? ⟨w.heap.size, 2, none⟩ = some (.slice Aa ra.path.length Ca))) := Lib.hid (fun wy hb => ⟨(G6.out.1.call hb).gb.all, (G6.out.2.2.2.call hb).at_, (G6.out.1.call hb).any.at_⟩)
          have CR : Hid (∀ wy, Below wc.heap.size wc wy → Calls Tryz.prog 12 #[.slice a1 l1.length c1] wy fun e w' => ∃ A c, e = .returned (.agg #[.int .i64 (routeR l1).kind, .int .i64 (routeR l1).cost, .slice A (routeR l1).path.length c]) ∧ RtR w' w'.heap.size (routeR l1) A c ∧ Below wy.heap.size wy w') := Lib.hid (fun wy hb => by
            have hr := (G6.out.1.call hb).raw
            exact (route_any l1 a1 c1 wy hr.rd hr.in64 hr.len).mono fun e w' ⟨A, c, g1, g2, g3⟩ => ⟨A, c, g1, RtR.of_own g2, g3⟩)
          generalize routeR l1 = rr at *
          have hb0 : Below wc.heap.size wc wc.drew := below_drew (Below.refl _ _)
          refine wp_region_held_drew (S := (fun wy => (wy.cell? ⟨b, 0, none⟩ = some (.int .i64 p.proto) ∧ wy.cell? ⟨b, 1, none⟩ = some (.int .i64 p.cap) ∧ wy.cell? ⟨b, 2, none⟩ = some (.int .i64 p.k) ∧ wy.cell? ⟨b, 3, none⟩ = some (.slice h.an p.nodes.length h.cn) ∧ wy.cell? ⟨b, 4, none⟩ = some (.slice h.al p.links.length h.cl) ∧ wy.cell? ⟨b, 5, none⟩ = some (.slice h.ad p.dests.length h.cd) ∧ wy.cell? ⟨b, 6, none⟩ = some (.slice h.ac p.checks.length h.cc)) ∧ (wy.cell? ⟨bo, 0, none⟩ = some (.int .i64 ro.kind) ∧ wy.cell? ⟨bo, 1, none⟩ = some (.int .i64 ro.cost) ∧ wy.cell? ⟨bo, 2, none⟩ = some (.slice none ro.path.length 0)) ∧ (wy.cell? ⟨w.heap.size, 0, none⟩ = some (.int .i64 ra.kind) ∧ wy.cell? ⟨w.heap.size, 1, none⟩ = some (.int .i64 ra.cost) ∧ wy.cell? ⟨w.heap.size, 2, none⟩ = some (.slice Aa ra.path.length Ca)))) (by kernel_rfl) (HC.out _ hb0) (fun hHeld0 => ?_)
          refine take_list (i := 0) (v := ?_) rfl (by kernel_rfl) (by kernel_rfl) (by kernel_rfl) (fun _ _ _ h => h) (Or.inl ⟨by rfl, ?_⟩) (by assumption) ?_
          rotate_left
          · (intro w hSw; (try dsimp only at hSw); go_simp; try (with_reducible rfl))
          try simp only [Act.put, List.setIfInBounds_toArray, List.set_cons_zero, List.set_cons_succ]
          refine take_list (i := 2) (v := ?_) rfl (by kernel_rfl) (by kernel_rfl) (by kernel_rfl) (fun _ _ _ h => h) (Or.inl ⟨by rfl, ?_⟩) (by assumption) ?_
          rotate_left
          · (intro w hSw; (try dsimp only at hSw); go_simp; try (with_reducible rfl))
          try simp only [Act.put, List.setIfInBounds_toArray, List.set_cons_zero, List.set_cons_succ]
          refine take_list (i := 3) (v := ?_) rfl (by kernel_rfl) (by kernel_rfl) (by kernel_rfl) (fun _ _ _ h => h) (Or.inl ⟨by rfl, ?_⟩) (by assumption) ?_
          rotate_left
          · (intro w hSw; (try dsimp only at hSw); go_simp; try (with_reducible rfl))
          try simp only [Act.put, List.setIfInBounds_toArray, List.set_cons_zero, List.set_cons_succ]
          refine take_list (i := 6) (v := ?_) rfl (by kernel_rfl) (by kernel_rfl) (by kernel_rfl) (fun _ _ _ h => h) (Or.inl ⟨by rfl, ?_⟩) (by assumption) ?_
          rotate_left
          · (intro w hSw; (try dsimp only at hSw); go_simp; try (with_reducible rfl))
          try simp only [Act.put, List.setIfInBounds_toArray, List.set_cons_zero, List.set_cons_succ]
          refine wpAnyH_ready (rs := [1]) (by kernel_rfl) (by simp) ?_
          refine cons_list rfl (fun K hK => ?_) AllReadyH.nil
          go_simp
          (go_at_call 12; refine (CR.out _ hb0).mono ?_; rintro e wq1 ⟨Ar, cr, rfl, hr1, hc1⟩; have hb1 := since_trans hb0 hc1; have hb2 := since_alloc hb1 (.cells #[.int .i64 rr.kind, .int .i64 rr.cost, .slice Ar rr.path.length cr, .int .i64 ra.kind, .int .i64 ra.cost, .slice Aa ra.path.length Ca, .int .i64 ro.kind, .int .i64 ro.cost, .slice none ro.path.length 0] 24); have hba := Below.alloc (Below.refl wq1.heap.size wq1) (Nat.le_refl _) (.cells #[.int .i64 rr.kind, .int .i64 rr.cost, .slice Ar rr.path.length cr, .int .i64 ra.kind, .int .i64 ra.cost, .slice Aa ra.path.length Ca, .int .i64 ro.kind, .int .i64 ro.cost, .slice none ro.path.length 0] 24))
          refine hK.out _ _ (HC.out _ (by assumption)) (fun hHeld1 => ?_)
          clear hK K hHeld0
          try simp only [Act.put, List.setIfInBounds_toArray, List.set_cons_zero, List.set_cons_succ]
          refine wpAnyH_ready (rs := [4]) (by kernel_rfl) (by simp) ?_
          refine cons_list rfl (fun K hK => ?_) AllReadyH.nil
          go_simp
          refine hK.out _ _ (HC.out _ (by assumption)) (fun hHeld2 => ?_)
          clear hK K hHeld1
          try simp only [Act.put, List.setIfInBounds_toArray, List.set_cons_zero, List.set_cons_succ]
          refine take_list (i := 5) (v := ?_) rfl (by kernel_rfl) (by kernel_rfl) (by kernel_rfl) (fun _ _ _ h => h) (Or.inl ⟨by rfl, ?_⟩) (by assumption) ?_
          rotate_left
          · (intro w hSw; (try dsimp only at hSw); go_simp; try (with_reducible rfl))
          try simp only [Act.put, List.setIfInBounds_toArray, List.set_cons_zero, List.set_cons_succ]
          refine wpAnyH_done (by kernel_rfl) ?_ _
          clear hHeld2
          have L0 : Hid (∃ b4, b4 = wq1.heap.size ∧ (CB w (wq1.alloc (.cells #[.int .i64 rr.kind, .int .i64 rr.cost, .slice Ar rr.path.length cr, .int .i64 ra.kind, .int .i64 ra.cost, .slice Aa ra.path.length Ca, .int .i64 ro.kind, .int .i64 ro.cost, .slice none ro.path.length 0] 24)) bs p1 h1 p2 h2 w.heap.size ra Aa Ca a1 c1 l1 b p h ∧ (wq1.alloc (.cells #[.int .i64 rr.kind, .int .i64 rr.cost, .slice Ar rr.path.length cr, .int .i64 ra.kind, .int .i64 ra.cost, .slice Aa ra.path.length Ca, .int .i64 ro.kind, .int .i64 ro.cost, .slice none ro.path.length 0] 24)).heap[br]? = some (.cells #[.int .i64 n3, .int .i64 n4, .int .i64 n5, .int .i64 m3, .int .i64 m4, .int .i64 m5] 34 (0, 0)) ∧ (wq1.alloc (.cells #[.int .i64 rr.kind, .int .i64 rr.cost, .slice Ar rr.path.length cr, .int .i64 ra.kind, .int .i64 ra.cost, .slice Aa ra.path.length Ca, .int .i64 ro.kind, .int .i64 ro.cost, .slice none ro.path.length 0] 24)).heap[b2]? = some (.cells #[.int .i64 x0, .int .i64 x1, .int .i64 x2] 34 (0, 0)) ∧ (wq1.alloc (.cells #[.int .i64 rr.kind, .int .i64 rr.cost, .slice Ar rr.path.length cr, .int .i64 ra.kind, .int .i64 ra.cost, .slice Aa ra.path.length Ca, .int .i64 ro.kind, .int .i64 ro.cost, .slice none ro.path.length 0] 24)).heap[b4]? = some (.cells #[.int .i64 rr.kind, .int .i64 rr.cost, .slice Ar rr.path.length cr, .int .i64 ra.kind, .int .i64 ra.cost, .slice Aa ra.path.length Ca, .int .i64 ro.kind, .int .i64 ro.cost, .slice none ro.path.length 0] 24 (0, 0)) ∧ RtR (wq1.alloc (.cells #[.int .i64 rr.kind, .int .i64 rr.cost, .slice Ar rr.path.length cr, .int .i64 ra.kind, .int .i64 ra.cost, .slice Aa ra.path.length Ca, .int .i64 ro.kind, .int .i64 ro.cost, .slice none ro.path.length 0] 24)) (wq1.alloc (.cells #[.int .i64 rr.kind, .int .i64 rr.cost, .slice Ar rr.path.length cr, .int .i64 ra.kind, .int .i64 ra.cost, .slice Aa ra.path.length Ca, .int .i64 ro.kind, .int .i64 ro.cost, .slice none ro.path.length 0] 24)).heap.size rr Ar cr)) := Lib.hid ⟨_, rfl, G6.out.1.call hb2, block_keep G6.out.2.1 hb2, block_keep G6.out.2.2.1 hb2, heap_alloc_new _ _, hr1.call hba⟩
          clear hb0 hb1 hb2 hc1 hba hr1 HC CR G6
          generalize (wq1.alloc (.cells #[.int .i64 rr.kind, .int .i64 rr.cost, .slice Ar rr.path.length cr, .int .i64 ra.kind, .int .i64 ra.cost, .slice Aa ra.path.length Ca, .int .i64 ro.kind, .int .i64 ro.cost, .slice none ro.path.length 0] 24)) = w7 at *
          go_wp2_with fail
          obtain ⟨b4, hb4, L1'⟩ := L0.out
          have L1 := Lib.hid L1'
          clear L0 L1'
          rw [← hb4]
          clear hb4
          go_loopw [71] (fun sk wx => ∃ k : Nat, k ≤ 3 ∧ sk = .int .i64 (k : Int) ∧ (CB w wx bs p1 h1 p2 h2 w.heap.size ra Aa Ca a1 c1 l1 b p h ∧ wx.heap[br]? = some (.cells #[.int .i64 n3, .int .i64 n4, .int .i64 n5, .int .i64 m3, .int .i64 m4, .int .i64 m5] 34 (0, 0)) ∧ wx.heap[b2]? = some (.cells #[.int .i64 x0, .int .i64 x1, .int .i64 x2] 34 (0, 0)) ∧ wx.heap[b4]? = some (.cells #[.int .i64 rr.kind, .int .i64 rr.cost, .slice Ar rr.path.length cr, .int .i64 ra.kind, .int .i64 ra.cost, .slice Aa ra.path.length Ca, .int .i64 ro.kind, .int .i64 ro.cost, .slice none ro.path.length 0] 24 (0, 0)) ∧ RtR wx wx.heap.size rr Ar cr)) (fun sk _ => 3 - (intOf sk).toNat)
          case atStart => exact ⟨0, by omega, rfl, L1.out⟩
          case round =>
            clear L1
            obtain ⟨k, hk, rfl, hL⟩ := hrel
            have LX := Lib.hid hL
            clear hL
            by_cases hkt : k < 3
            rotate_left
            · have hk3 : k = 3 := by omega
              subst hk3
              clear hkt hk
              go_wp2_with fail
              go_roundw
              case rel => exact ⟨j + 1, by omega, by go_num, LX.out.1, LX.out.2.1⟩
              case measure => simp [intOf]; omega
            · go_upto_region 13 with fail
              go_cut [20] (fun s wx => ∃ (b3 : Nat) (r : Rt) (A : Option Addr) (c : Nat), s = .pointer (some ⟨b3, 0, none⟩) ∧ (CB w wx bs p1 h1 p2 h2 w.heap.size ra Aa Ca a1 c1 l1 b p h ∧ wx.heap[br]? = some (.cells #[.int .i64 n3, .int .i64 n4, .int .i64 n5, .int .i64 m3, .int .i64 m4, .int .i64 m5] 34 (0, 0)) ∧ wx.heap[b2]? = some (.cells #[.int .i64 x0, .int .i64 x1, .int .i64 x2] 34 (0, 0)) ∧ wx.heap[b4]? = some (.cells #[.int .i64 rr.kind, .int .i64 rr.cost, .slice Ar rr.path.length cr, .int .i64 ra.kind, .int .i64 ra.cost, .slice Aa ra.path.length Ca, .int .i64 ro.kind, .int .i64 ro.cost, .slice none ro.path.length 0] 24 (0, 0)) ∧ RtR wx wx.heap.size rr Ar cr) ∧ Box wx b3 r A c)
              case first =>
                have hk012 : k = 0 ∨ k = 1 ∨ k = 2 := by omega
                have RR := LX.out.2.2.2.1
                have e0 := cell_of_row _ _ 0 _ _ _ RR
                have e1 := cell_of_row _ _ 1 _ _ _ RR
                have e2 := cell_of_row _ _ 2 _ _ _ RR
                have e3 := cell_of_row _ _ 3 _ _ _ RR
                have e4 := cell_of_row _ _ 4 _ _ _ RR
                have e5 := cell_of_row _ _ 5 _ _ _ RR
                have e6 := cell_of_row _ _ 6 _ _ _ RR
                have e7 := cell_of_row _ _ 7 _ _ _ RR
                have e8 := cell_of_row _ _ 8 _ _ _ RR
                simp only [List.getElem?_toArray, List.getElem?_cons_zero, List.getElem?_cons_succ] at e0 e1 e2 e3 e4 e5 e6 e7 e8
                have LA : Hid (∀ o : Obj, (CB w (wr.alloc o) bs p1 h1 p2 h2 w.heap.size ra Aa Ca a1 c1 l1 b p h ∧ (wr.alloc o).heap[br]? = some (.cells #[.int .i64 n3, .int .i64 n4, .int .i64 n5, .int .i64 m3, .int .i64 m4, .int .i64 m5] 34 (0, 0)) ∧ (wr.alloc o).heap[b2]? = some (.cells #[.int .i64 x0, .int .i64 x1, .int .i64 x2] 34 (0, 0)) ∧ (wr.alloc o).heap[b4]? = some (.cells #[.int .i64 rr.kind, .int .i64 rr.cost, .slice Ar rr.path.length cr, .int .i64 ra.kind, .int .i64 ra.cost, .slice Aa ra.path.length Ca, .int .i64 ro.kind, .int .i64 ro.cost, .slice none ro.path.length 0] 24 (0, 0)) ∧ RtR (wr.alloc o) (wr.alloc o).heap.size rr Ar cr)) := Lib.hid (fun o => by
                  have hb : Below wr.heap.size wr (wr.alloc o) := (Below.refl _ _).alloc (Nat.le_refl _) _
                  exact ⟨LX.out.1.call hb, block_keep LX.out.2.1 hb, block_keep LX.out.2.2.1 hb, block_keep LX.out.2.2.2.1 hb, LX.out.2.2.2.2.call hb⟩)
                have BR := Lib.hid (Box.new LX.out.2.2.2.2)
                have BA := Lib.hid (Box.new LX.out.1.any.rt)
                have BO := Lib.hid (Box.new (HRO.out wr))
                clear RR
                rcases hk012 with rfl | rfl | rfl
                · go_wp2_with fail
                  go_meet
                  case rel => exact ⟨_, rr, Ar, cr, rfl, LA.out _, BR.out⟩
                · go_wp2_with fail
                  go_meet
                  case rel => exact ⟨_, ra, Aa, Ca, rfl, LA.out _, BA.out⟩
                · go_wp2_with fail
                  go_meet
                  case rel => exact ⟨_, ro, none, 0, rfl, LA.out _, BO.out⟩
              case rest =>
              clear LX
              obtain ⟨b3, r, A, c, rfl, hL, hX⟩ := hcut
              have LX := Lib.hid hL
              have BX := Lib.hid hX
              obtain ⟨g0, g1, g2, g3, g4, g5, g6⟩ := hL.1.gb.all
              obtain ⟨r0, r1, r2⟩ := hX.at_
              have e0 := cell_of_row _ _ 0 _ _ _ hL.2.2.1
              have e1 := cell_of_row _ _ 1 _ _ _ hL.2.2.1
              simp only [List.getElem?_toArray, List.getElem?_cons_zero, List.getElem?_cons_succ] at e0 e1
              clear hL hX
              go_wp2_with fail
              refine (over_gen p h x0 x1 r A c _ LX.out.1.gb.net SP.out BX.out.rt).mono ?_
              rintro e w8 ⟨Aq, cq, rfl, hoq, hb⟩
              have OV : Hid (∀ wy, Below wc.heap.size wc wy → Calls Tryz.prog 16 #[.agg #[.int .i64 p.proto, .int .i64 p.cap, .int .i64 p.k, .slice h.an p.nodes.length h.cn, .slice h.al p.links.length h.cl, .slice h.ad p.dests.length h.cd, .slice h.ac p.checks.length h.cc], .int .i64 x0, .int .i64 x1, .agg #[.int .i64 r.kind, .int .i64 r.cost, .slice A r.path.length c]] wy fun e w' => ∃ A' c', e = .returned (.agg #[.int .i64 (overG p x0 x1 r).kind, .int .i64 (overG p x0 x1 r).cost, .slice A' (overG p x0 x1 r).path.length c']) ∧ RtR w' w'.heap.size (overG p x0 x1 r) A' c' ∧ Below wy.heap.size wy w') := Lib.hid (fun wy hb =>
                (rover_any p h x0 x1 r A c wy (LX.out.1.call hb).gb.net SP.out (BX.out.call hb).rt).mono fun e w' ⟨A', c', g1, g2, g3⟩ => ⟨A', c', g1, g2.rt _ _, g3⟩)
              have hrq : RtR w8 w8.heap.size (overG p x0 x1 r) Aq cq := hoq.rt _ _
              generalize overG p x0 x1 r = q at *
              unfold rtV
              have G8 : Hid (Box (w8.alloc (.cells #[.int .i64 q.kind, .int .i64 q.cost, .slice Aq q.path.length cq] 24)) w8.heap.size q Aq cq ∧ Below wc.heap.size wc (w8.alloc (.cells #[.int .i64 q.kind, .int .i64 q.cost, .slice Aq q.path.length cq] 24))) := Lib.hid ⟨Box.new hrq, since_alloc hb _⟩
              clear g0 g1 g2 g3 g4 g5 g6 r0 r1 r2 e0 e1 hb hrq hoq
              go_upto_region 15 with fail
              generalize (w8.alloc (.cells #[.int .i64 q.kind, .int .i64 q.cost, .slice Aq q.path.length cq] 24)) = w9 at *
              generalize w8.heap.size = b5 at *
              have HC : Hid (∀ wy, Below w9.heap.size w9 wy → (wy.cell? ⟨b, 0, none⟩ = some (.int .i64 p.proto) ∧ wy.cell? ⟨b, 1, none⟩ = some (.int .i64 p.cap) ∧ wy.cell? ⟨b, 2, none⟩ = some (.int .i64 p.k) ∧ wy.cell? ⟨b, 3, none⟩ = some (.slice h.an p.nodes.length h.cn) ∧ wy.cell? ⟨b, 4, none⟩ = some (.slice h.al p.links.length h.cl) ∧ wy.cell? ⟨b, 5, none⟩ = some (.slice h.ad p.dests.length h.cd) ∧ wy.cell? ⟨b, 6, none⟩ = some (.slice h.ac p.checks.length h.cc)) ∧ (wy.cell? ⟨b2, 0, none⟩ = some (.int .i64 x0) ∧ wy.cell? ⟨b2, 1, none⟩ = some (.int .i64 x1) ∧ wy.cell? ⟨b2, 2, none⟩ = some (.int .i64 x2)) ∧ (wy.cell? ⟨b3, 0, none⟩ = some (.int .i64 r.kind) ∧ wy.cell? ⟨b3, 1, none⟩ = some (.int .i64 r.cost) ∧ wy.cell? ⟨b3, 2, none⟩ = some (.slice A r.path.length c)) ∧ (wy.cell? ⟨b5, 0, none⟩ = some (.int .i64 q.kind) ∧ wy.cell? ⟨b5, 1, none⟩ = some (.int .i64 q.cost) ∧ wy.cell? ⟨b5, 2, none⟩ = some (.slice Aq q.path.length cq))) := Lib.hid (fun wy hb => by
                have hb' := since_trans G8.out.2 hb
                have hx := block_keep LX.out.2.2.1 hb'
                exact ⟨(LX.out.1.call hb').gb.all, ⟨cell_of_row wy _ 0 _ _ _ hx, cell_of_row wy _ 1 _ _ _ hx, cell_of_row wy _ 2 _ _ _ hx⟩, (BX.out.call hb').at_, (G8.out.1.call hb).at_⟩)
              have OV2 : Hid (∀ wy, Below w9.heap.size w9 wy → Calls Tryz.prog 16 #[.agg #[.int .i64 p.proto, .int .i64 p.cap, .int .i64 p.k, .slice h.an p.nodes.length h.cn, .slice h.al p.links.length h.cl, .slice h.ad p.dests.length h.cd, .slice h.ac p.checks.length h.cc], .int .i64 x0, .int .i64 x1, .agg #[.int .i64 r.kind, .int .i64 r.cost, .slice A r.path.length c]] wy fun e w' => ∃ A' c', e = .returned (.agg #[.int .i64 q.kind, .int .i64 q.cost, .slice A' q.path.length c']) ∧ RtR w' w'.heap.size q A' c' ∧ Below wy.heap.size wy w') := Lib.hid (fun wy hb => OV.out wy (since_trans G8.out.2 hb))
              have CF1 : Hid (∀ wy, Below w9.heap.size w9 wy → Calls Tryz.prog 14 #[.agg #[.int .i64 p.proto, .int .i64 p.cap, .int .i64 p.k, .slice h.an p.nodes.length h.cn, .slice h.al p.links.length h.cl, .slice h.ad p.dests.length h.cd, .slice h.ac p.checks.length h.cc], .int .i64 x1, .agg #[.int .i64 r.kind, .int .i64 r.cost, .slice A r.path.length c]] wy fun e w' => e = .returned (.bool (rfitsG p x1 r)) ∧ Below wy.heap.size wy w') := Lib.hid (fun wy hb => by
                have hb' := since_trans G8.out.2 hb
                exact fits_gen p h x1 r A c wy (LX.out.1.call hb').gb.net SP.out (BX.out.call hb').rt)
              have CF2 : Hid (∀ wy, Below w9.heap.size w9 wy → Calls Tryz.prog 15 #[.agg #[.int .i64 p.proto, .int .i64 p.cap, .int .i64 p.k, .slice h.an p.nodes.length h.cn, .slice h.al p.links.length h.cl, .slice h.ad p.dests.length h.cd, .slice h.ac p.checks.length h.cc], .int .i64 x1, .agg #[.int .i64 r.kind, .int .i64 r.cost, .slice A r.path.length c]] wy fun e w' => e = .returned (.bool (rfitsG p x1 r)) ∧ Below wy.heap.size wy w') := Lib.hid (fun wy hb => by
                have hb' := since_trans G8.out.2 hb
                exact rfits_any p h x1 r A c wy (LX.out.1.call hb').gb.net SP.out (BX.out.call hb').rt)
              have CS : Hid (∀ (A' : Option Addr) (c' : Nat) wy, Below w9.heap.size w9 wy → RtR wy wy.heap.size q A' c' → Calls Tryz.prog 10 #[.agg #[.int .i64 q.kind, .int .i64 q.cost, .slice Aq q.path.length cq], .agg #[.int .i64 q.kind, .int .i64 q.cost, .slice A' q.path.length c']] wy fun e w' => e = .returned (.bool true) ∧ Below wy.heap.size wy w') := Lib.hid (fun A' c' wy hb hr =>
                (refSame_any q q Aq A' cq c' wy (G8.out.1.call hb).rt hr).mono fun e w' ⟨g1, g2⟩ => ⟨by rw [g1]; simp, g2⟩)
              generalize rfitsG p x1 r = fb at *
              have hff : (fb != fb) = false := by simp
              have hb0 : Below w9.heap.size w9 w9.drew := below_drew (Below.refl _ _)
              refine wp_region_held_drew (S := (fun wy => (wy.cell? ⟨b, 0, none⟩ = some (.int .i64 p.proto) ∧ wy.cell? ⟨b, 1, none⟩ = some (.int .i64 p.cap) ∧ wy.cell? ⟨b, 2, none⟩ = some (.int .i64 p.k) ∧ wy.cell? ⟨b, 3, none⟩ = some (.slice h.an p.nodes.length h.cn) ∧ wy.cell? ⟨b, 4, none⟩ = some (.slice h.al p.links.length h.cl) ∧ wy.cell? ⟨b, 5, none⟩ = some (.slice h.ad p.dests.length h.cd) ∧ wy.cell? ⟨b, 6, none⟩ = some (.slice h.ac p.checks.length h.cc)) ∧ (wy.cell? ⟨b2, 0, none⟩ = some (.int .i64 x0) ∧ wy.cell? ⟨b2, 1, none⟩ = some (.int .i64 x1) ∧ wy.cell? ⟨b2, 2, none⟩ = some (.int .i64 x2)) ∧ (wy.cell? ⟨b3, 0, none⟩ = some (.int .i64 r.kind) ∧ wy.cell? ⟨b3, 1, none⟩ = some (.int .i64 r.cost) ∧ wy.cell? ⟨b3, 2, none⟩ = some (.slice A r.path.length c)) ∧ (wy.cell? ⟨b5, 0, none⟩ = some (.int .i64 q.kind) ∧ wy.cell? ⟨b5, 1, none⟩ = some (.int .i64 q.cost) ∧ wy.cell? ⟨b5, 2, none⟩ = some (.slice Aq q.path.length cq)))) (by kernel_rfl) (HC.out _ hb0) (fun hHeld0 => ?_)
              refine take_list (i := 0) (v := ?_) rfl (by kernel_rfl) (by kernel_rfl) (by kernel_rfl) (fun _ _ _ h => h) (Or.inl ⟨by rfl, ?_⟩) (by assumption) ?_
              rotate_left
              · (intro w hSw; (try dsimp only at hSw); go_simp; try (with_reducible rfl))
              try simp only [Act.put, List.setIfInBounds_toArray, List.set_cons_zero, List.set_cons_succ]
              refine take_list (i := 1) (v := ?_) rfl (by kernel_rfl) (by kernel_rfl) (by kernel_rfl) (fun _ _ _ h => h) (Or.inl ⟨by rfl, ?_⟩) (by assumption) ?_
              rotate_left
              · (intro w hSw; (try dsimp only at hSw); go_simp; try (with_reducible rfl))
              try simp only [Act.put, List.setIfInBounds_toArray, List.set_cons_zero, List.set_cons_succ]
              refine take_list (i := 2) (v := ?_) rfl (by kernel_rfl) (by kernel_rfl) (by kernel_rfl) (fun _ _ _ h => h) (Or.inl ⟨by rfl, ?_⟩) (by assumption) ?_
              rotate_left
              · (intro w hSw; (try dsimp only at hSw); go_simp; try (with_reducible rfl))
              try simp only [Act.put, List.setIfInBounds_toArray, List.set_cons_zero, List.set_cons_succ]
              refine take_list (i := 3) (v := ?_) rfl (by kernel_rfl) (by kernel_rfl) (by kernel_rfl) (fun _ _ _ h => h) (Or.inl ⟨by rfl, ?_⟩) (by assumption) ?_
              rotate_left
              · (intro w hSw; (try dsimp only at hSw); go_simp; try (with_reducible rfl))
              try simp only [Act.put, List.setIfInBounds_toArray, List.set_cons_zero, List.set_cons_succ]
              refine take_list (i := 5) (v := ?_) rfl (by kernel_rfl) (by kernel_rfl) (by kernel_rfl) (fun _ _ _ h => h) (Or.inl ⟨by rfl, ?_⟩) (by assumption) ?_
              rotate_left
              · (intro w hSw; (try dsimp only at hSw); go_simp; try (with_reducible rfl))
              try simp only [Act.put, List.setIfInBounds_toArray, List.set_cons_zero, List.set_cons_succ]
              refine take_list (i := 6) (v := ?_) rfl (by kernel_rfl) (by kernel_rfl) (by kernel_rfl) (fun _ _ _ h => h) (Or.inl ⟨by rfl, ?_⟩) (by assumption) ?_
              rotate_left
              · (intro w hSw; (try dsimp only at hSw); go_simp; try (with_reducible rfl))
              try simp only [Act.put, List.setIfInBounds_toArray, List.set_cons_zero, List.set_cons_succ]
              refine take_list (i := 7) (v := ?_) rfl (by kernel_rfl) (by kernel_rfl) (by kernel_rfl) (fun _ _ _ h => h) (Or.inl ⟨by rfl, ?_⟩) (by assumption) ?_
              rotate_left
              · (intro w hSw; (try dsimp only at hSw); go_simp; try (with_reducible rfl))
              try simp only [Act.put, List.setIfInBounds_toArray, List.set_cons_zero, List.set_cons_succ]
              refine take_list (i := 8) (v := ?_) rfl (by kernel_rfl) (by kernel_rfl) (by kernel_rfl) (fun _ _ _ h => h) (Or.inl ⟨by rfl, ?_⟩) (by assumption) ?_
              rotate_left
              · (intro w hSw; (try dsimp only at hSw); go_simp; try (with_reducible rfl))
              try simp only [Act.put, List.setIfInBounds_toArray, List.set_cons_zero, List.set_cons_succ]
              refine wpAnyH_ready (rs := [4]) (by kernel_rfl) (by simp) ?_
              refine cons_list rfl (fun K hK => ?_) AllReadyH.nil
              go_simp
              (go_at_call 14; refine (CF1.out _ hb0).mono ?_; rintro e wq1 ⟨rfl, hc1⟩; have hb1 := since_trans hb0 hc1)
              refine hK.out _ _ (HC.out _ (by assumption)) (fun hHeld1 => ?_)
              clear hK K hHeld0
              try simp only [Act.put, List.setIfInBounds_toArray, List.set_cons_zero, List.set_cons_succ]
              refine wpAnyH_ready (rs := [9]) (by kernel_rfl) (by simp) ?_
              refine cons_list rfl (fun K hK => ?_) AllReadyH.nil
              go_simp
              (go_at_call 15; refine (CF2.out _ hb1).mono ?_; rintro e wq2 ⟨rfl, hc2⟩; have hb2 := since_trans hb1 hc2)
              refine hK.out _ _ (HC.out _ (by assumption)) (fun hHeld2 => ?_)
              clear hK K hHeld1
              try simp only [Act.put, List.setIfInBounds_toArray, List.set_cons_zero, List.set_cons_succ]
              refine take_list (i := 10) (v := ?_) rfl (by kernel_rfl) (by kernel_rfl) (by kernel_rfl) (fun _ _ _ h => h) (Or.inl ⟨by rfl, ?_⟩) (by assumption) ?_
              rotate_left
              · (intro w hSw; (try dsimp only at hSw); go_simp; try (with_reducible rfl))
              try simp only [Act.put, List.setIfInBounds_toArray, List.set_cons_zero, List.set_cons_succ]
              refine take_list (i := 11) (v := ?_) rfl (by kernel_rfl) (by kernel_rfl) (by kernel_rfl) (fun _ _ _ h => h) (Or.inl ⟨by rfl, ?_⟩) (by assumption) ?_
              rotate_left
              · (intro w hSw; (try dsimp only at hSw); go_simp; try (with_reducible rfl))
              try simp only [Act.put, List.setIfInBounds_toArray, List.set_cons_zero, List.set_cons_succ]
              refine take_list (i := 12) (v := ?_) rfl (by kernel_rfl) (by kernel_rfl) (by kernel_rfl) (fun _ _ _ h => h) (Or.inl ⟨by rfl, ?_⟩) (by assumption) ?_
              rotate_left
              · (intro w hSw; (try dsimp only at hSw); go_simp; try (with_reducible rfl))
              try simp only [Act.put, List.setIfInBounds_toArray, List.set_cons_zero, List.set_cons_succ]
              refine take_list (i := 13) (v := ?_) rfl (by kernel_rfl) (by kernel_rfl) (by kernel_rfl) (fun _ _ _ h => h) (Or.inl ⟨by rfl, ?_⟩) (by assumption) ?_
              rotate_left
              · (intro w hSw; (try dsimp only at hSw); go_simp; try (with_reducible rfl))
              try simp only [Act.put, List.setIfInBounds_toArray, List.set_cons_zero, List.set_cons_succ]
              refine take_list (i := 14) (v := ?_) rfl (by kernel_rfl) (by kernel_rfl) (by kernel_rfl) (fun _ _ _ h => h) (Or.inl ⟨by rfl, ?_⟩) (by assumption) ?_
              rotate_left
              · (intro w hSw; (try dsimp only at hSw); go_simp; try (with_reducible rfl))
              try simp only [Act.put, List.setIfInBounds_toArray, List.set_cons_zero, List.set_cons_succ]
              refine take_list (i := 15) (v := ?_) rfl (by kernel_rfl) (by kernel_rfl) (by kernel_rfl) (fun _ _ _ h => h) (Or.inl ⟨by rfl, ?_⟩) (by assumption) ?_
              rotate_left
              · (intro w hSw; (try dsimp only at hSw); go_simp; try (with_reducible rfl))
              try simp only [Act.put, List.setIfInBounds_toArray, List.set_cons_zero, List.set_cons_succ]
              refine take_list (i := 16) (v := ?_) rfl (by kernel_rfl) (by kernel_rfl) (by kernel_rfl) (fun _ _ _ h => h) (Or.inl ⟨by rfl, ?_⟩) (by assumption) ?_
              rotate_left
              · (intro w hSw; (try dsimp only at hSw); go_simp; try (with_reducible rfl))
              try simp only [Act.put, List.setIfInBounds_toArray, List.set_cons_zero, List.set_cons_succ]
              refine take_list (i := 17) (v := ?_) rfl (by kernel_rfl) (by kernel_rfl) (by kernel_rfl) (fun _ _ _ h => h) (Or.inl ⟨by rfl, ?_⟩) (by assumption) ?_
              rotate_left
              · (intro w hSw; (try dsimp only at hSw); go_simp; try (with_reducible rfl))
              try simp only [Act.put, List.setIfInBounds_toArray, List.set_cons_zero, List.set_cons_succ]
              refine take_list (i := 18) (v := ?_) rfl (by kernel_rfl) (by kernel_rfl) (by kernel_rfl) (fun _ _ _ h => h) (Or.inl ⟨by rfl, ?_⟩) (by assumption) ?_
              rotate_left
              · (intro w hSw; (try dsimp only at hSw); go_simp; try (with_reducible rfl))
              try simp only [Act.put, List.setIfInBounds_toArray, List.set_cons_zero, List.set_cons_succ]
              refine wpAnyH_ready (rs := [19]) (by kernel_rfl) (by simp) ?_
              refine cons_list rfl (fun K hK => ?_) AllReadyH.nil
              go_simp
              (go_at_call 16; refine (OV2.out _ hb2).mono ?_; rintro e wq3 ⟨A9, c9, rfl, hr9, hc3⟩; have hb3 := since_trans hb2 hc3)
              refine hK.out _ _ (HC.out _ (by assumption)) (fun hHeld3 => ?_)
              clear hK K hHeld2
              try simp only [Act.put, List.setIfInBounds_toArray, List.set_cons_zero, List.set_cons_succ]
              refine wpAnyH_ready (rs := [20]) (by kernel_rfl) (by simp) ?_
              refine cons_list rfl (fun K hK => ?_) AllReadyH.nil
              go_simp
              (go_at_call 10; refine (CS.out _ _ _ hb3 hr9).mono ?_; rintro e wq4 ⟨rfl, hc4⟩; have hb5 := since_trans hb3 hc4)
              refine hK.out _ _ (HC.out _ (by assumption)) (fun hHeld4 => ?_)
              clear hK K hHeld3
              try simp only [Act.put, List.setIfInBounds_toArray, List.set_cons_zero, List.set_cons_succ]
              refine take_list (i := 21) (v := ?_) rfl (by kernel_rfl) (by kernel_rfl) (by kernel_rfl) (fun _ _ _ h => h) (Or.inl ⟨by rfl, ?_⟩) (by assumption) ?_
              rotate_left
              · (intro w hSw; (try dsimp only at hSw); go_simp; try (with_reducible rfl))
              try simp only [Act.put, List.setIfInBounds_toArray, List.set_cons_zero, List.set_cons_succ]
              refine take_list (i := 22) (v := ?_) rfl (by kernel_rfl) (by kernel_rfl) (by kernel_rfl) (fun _ _ _ h => h) (Or.inl ⟨by rfl, ?_⟩) (by assumption) ?_
              rotate_left
              · (intro w hSw; (try dsimp only at hSw); go_simp; try (with_reducible rfl))
              try simp only [Act.put, List.setIfInBounds_toArray, List.set_cons_zero, List.set_cons_succ]
              refine wpAnyH_done (by kernel_rfl) ?_ _
              clear hHeld4
              have hbf := since_trans G8.out.2 hb5
              have L9 : Hid ((CB w wq4 bs p1 h1 p2 h2 w.heap.size ra Aa Ca a1 c1 l1 b p h ∧ wq4.heap[br]? = some (.cells #[.int .i64 n3, .int .i64 n4, .int .i64 n5, .int .i64 m3, .int .i64 m4, .int .i64 m5] 34 (0, 0)) ∧ wq4.heap[b2]? = some (.cells #[.int .i64 x0, .int .i64 x1, .int .i64 x2] 34 (0, 0)) ∧ wq4.heap[b4]? = some (.cells #[.int .i64 rr.kind, .int .i64 rr.cost, .slice Ar rr.path.length cr, .int .i64 ra.kind, .int .i64 ra.cost, .slice Aa ra.path.length Ca, .int .i64 ro.kind, .int .i64 ro.cost, .slice none ro.path.length 0] 24 (0, 0)) ∧ RtR wq4 wq4.heap.size rr Ar cr)) := Lib.hid ⟨LX.out.1.call hbf, block_keep LX.out.2.1 hbf, block_keep LX.out.2.2.1 hbf, block_keep LX.out.2.2.2.1 hbf, LX.out.2.2.2.2.call hbf⟩
              clear hb0 hb1 hb2 hb3 hb5 hc1 hc2 hc3 hc4 hr9 hbf hff
              go_wp2_with fail
              go_roundw
              case rel => exact ⟨k + 1, by omega, by go_num, L9.out⟩
              case measure => simp [intOf]; omega
end Go.Proofs.YtidmpfenkgihjaaGreat

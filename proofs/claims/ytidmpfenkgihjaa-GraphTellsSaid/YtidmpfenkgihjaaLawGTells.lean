/- The walk of backstaylaw05.GraphTells. -/
import Derived.Test.YtidmpfenkgihjaaRef5g
import Derived.Test.YtidmpfenkgihjaaWildV
import Derived.Test.YtidmpfenkgihjaaInts
import Derived.Test.YtidmpfenkgihjaaNetB
import Derived.Test.YtidmpfenkgihjaaLaw5
namespace Go.Proofs.Ytidmpfenkgihjaa
set_option linter.unusedSimpArgs false
set_option linter.unusedVariables false
open Go.RowKit

/-- Two networks in one row, which read. -/
structure GS (w wx : World) (bs : Nat) (p1 : Net) (h1 : Hd) (p2 : Net) (h2 : Hd) : Prop where
  below : Below w.heap.size w wx
  row : wx.heap[bs]? = some (.cells (netCells p1 h1 ++ netCells p2 h2) 29 (0, 0))
  n1 : NetR wx wx.heap.size p1 h1
  n2 : NetR wx wx.heap.size p2 h2
section
variable {w wx wy : World} {bs : Nat} {p1 p2 : Net} {h1 h2 : Hd}
theorem GS.call (a : GS w wx bs p1 h1 p2 h2) (hb : Below wx.heap.size wx wy) : GS w wy bs p1 h1 p2 h2 := ⟨since_trans a.below hb, (hb.block _ (lt_heap a.row)).trans a.row, a.n1.call hb, a.n2.call hb⟩
theorem GS.at1 (a : GS w wx bs p1 h1 p2 h2) : wx.cell? ⟨bs, 0, none⟩ = some (.int .i64 p1.proto) ∧ wx.cell? ⟨bs, 1, none⟩ = some (.int .i64 p1.cap) ∧ wx.cell? ⟨bs, 2, none⟩ = some (.int .i64 p1.k) ∧ wx.cell? ⟨bs, 3, none⟩ = some (.slice h1.an p1.nodes.length h1.cn) ∧
    wx.cell? ⟨bs, 4, none⟩ = some (.slice h1.al p1.links.length h1.cl) ∧ wx.cell? ⟨bs, 5, none⟩ = some (.slice h1.ad p1.dests.length h1.cd) ∧ wx.cell? ⟨bs, 6, none⟩ = some (.slice h1.ac p1.checks.length h1.cc) :=
  ⟨cell_of_row wx _ 0 _ _ _ a.row, cell_of_row wx _ 1 _ _ _ a.row, cell_of_row wx _ 2 _ _ _ a.row, cell_of_row wx _ 3 _ _ _ a.row, cell_of_row wx _ 4 _ _ _ a.row, cell_of_row wx _ 5 _ _ _ a.row, cell_of_row wx _ 6 _ _ _ a.row⟩
theorem GS.at2 (a : GS w wx bs p1 h1 p2 h2) : wx.cell? ⟨bs, 7, none⟩ = some (.int .i64 p2.proto) ∧ wx.cell? ⟨bs, 8, none⟩ = some (.int .i64 p2.cap) ∧ wx.cell? ⟨bs, 9, none⟩ = some (.int .i64 p2.k) ∧ wx.cell? ⟨bs, 10, none⟩ = some (.slice h2.an p2.nodes.length h2.cn) ∧
    wx.cell? ⟨bs, 11, none⟩ = some (.slice h2.al p2.links.length h2.cl) ∧ wx.cell? ⟨bs, 12, none⟩ = some (.slice h2.ad p2.dests.length h2.cd) ∧ wx.cell? ⟨bs, 13, none⟩ = some (.slice h2.ac p2.checks.length h2.cc) :=
  ⟨cell_of_row wx _ 7 _ _ _ a.row, cell_of_row wx _ 8 _ _ _ a.row, cell_of_row wx _ 9 _ _ _ a.row, cell_of_row wx _ 10 _ _ _ a.row, cell_of_row wx _ 11 _ _ _ a.row, cell_of_row wx _ 12 _ _ _ a.row, cell_of_row wx _ 13 _ _ _ a.row⟩
/-- .. and one of them in a box. -/
structure GB (w wx : World) (bs : Nat) (p1 : Net) (h1 : Hd) (p2 : Net) (h2 : Hd) (b : Nat) (p : Net) (h : Hd) : Prop where
  gs : GS w wx bs p1 h1 p2 h2
  box : wx.heap[b]? = some (.cells (netCells p h) 29 (0, 0))
  net : NetR wx wx.heap.size p h
variable {b : Nat} {p : Net} {h : Hd}
theorem GB.call (a : GB w wx bs p1 h1 p2 h2 b p h) (hb : Below wx.heap.size wx wy) : GB w wy bs p1 h1 p2 h2 b p h := ⟨a.gs.call hb, (hb.block _ (lt_heap a.box)).trans a.box, a.net.call hb⟩
theorem GB.all (a : GB w wx bs p1 h1 p2 h2 b p h) : wx.cell? ⟨b, 0, none⟩ = some (.int .i64 p.proto) ∧ wx.cell? ⟨b, 1, none⟩ = some (.int .i64 p.cap) ∧ wx.cell? ⟨b, 2, none⟩ = some (.int .i64 p.k) ∧ wx.cell? ⟨b, 3, none⟩ = some (.slice h.an p.nodes.length h.cn) ∧
    wx.cell? ⟨b, 4, none⟩ = some (.slice h.al p.links.length h.cl) ∧ wx.cell? ⟨b, 5, none⟩ = some (.slice h.ad p.dests.length h.cd) ∧ wx.cell? ⟨b, 6, none⟩ = some (.slice h.ac p.checks.length h.cc) :=
  ⟨cell_of_row wx _ 0 _ _ _ a.box, cell_of_row wx _ 1 _ _ _ a.box, cell_of_row wx _ 2 _ _ _ a.box, cell_of_row wx _ 3 _ _ _ a.box, cell_of_row wx _ 4 _ _ _ a.box, cell_of_row wx _ 5 _ _ _ a.box, cell_of_row wx _ 6 _ _ _ a.box⟩
end
attribute [local go_sem ↓] Go.wp_at_zero Go.wp_at_succ
set_option maxRecDepth 100000 in
set_option maxHeartbeats 8000000 in
theorem graphTells_walk (a0 : Option Addr) (c0 : Nat) (l0 : List Int) (n1 n2 n3 n4 : Int) (w : World) (h0 : InRow w a0 c0 l0) (k1 : In64 n1) (k2 : In64 n2) (k3 : In64 n3) (k4 : In64 n4) :
    Calls Try.prog 3 #[.slice a0 l0.length c0, .int .i64 n1, .int .i64 n2, .int .i64 n3, .int .i64 n4] w fun e w' => e = .returned (.bool true) ∧ Below w.heap.size w w' := by
  have I1 := Lib.hid k1
  have I2 := Lib.hid k2
  have I3 := Lib.hid k3
  have I4 := Lib.hid k4
  have H0 := Lib.hid h0
  clear k1 k2 k3 k4 h0
  go_enter Try.func3, Try.ntmps3
  go_wp2_with fail
  refine (awake5 _).mono ?_
  rintro e w1 ⟨rfl, hb1⟩
  have J0 := Lib.hid (H0.out.call hb1)
  have B1 := Lib.hid hb1
  clear hb1
  go_wp2_with fail
  refine (net_any _ _ l0 c0 J0.out.len J0.out.le J0.out.rd J0.out.in64).mono ?_
  rintro e w2 ⟨p1, h1, rfl, hok, hown, hb⟩
  have J1 := Lib.hid (J0.out.call hb)
  have B2 := Lib.hid (since_trans B1.out hb)
  have N2 := Lib.hid hown.net
  have S1 := Lib.hid hok.good.small
  clear hb hok hown J0 B1
  unfold netV netVal
  go_wp2_with fail
  refine (wild_any _ _ l0 c0 J1.out.len J1.out.le J1.out.rd J1.out.in64).mono ?_
  rintro e w3 ⟨p2, h2, rfl, hs2, hn2, hb⟩
  have S2 := Lib.hid hs2
  have G0 : Hid (GS w (w3.alloc (.cells (netCells p1 h1 ++ netCells p2 h2) 29)) w3.heap.size p1 h1 p2 h2) := Lib.hid
    ⟨since_alloc (since_trans B2.out hb) _, heap_alloc_new _ _, (N2.out.call hb).call ((Below.refl _ _).alloc (Nat.le_refl _) _), hn2.call ((Below.refl _ _).alloc (Nat.le_refl _) _)⟩
  clear hb hs2 hn2 N2 J1 B2
  unfold netV netVal
  have G1 : Hid (GS w (w3.alloc (.cells #[.int .i64 p1.proto, .int .i64 p1.cap, .int .i64 p1.k, .slice h1.an p1.nodes.length h1.cn, .slice h1.al p1.links.length h1.cl, .slice h1.ad p1.dests.length h1.cd, .slice h1.ac p1.checks.length h1.cc, .int .i64 p2.proto, .int .i64 p2.cap, .int .i64 p2.k, .slice h2.an p2.nodes.length h2.cn, .slice h2.al p2.links.length h2.cl, .slice h2.ad p2.dests.length h2.cd, .slice h2.ac p2.checks.length h2.cc] 29)) w3.heap.size p1 h1 p2 h2) := G0
  clear G0
  go_wp2_with fail
  generalize (w3.alloc (.cells #[.int .i64 p1.proto, .int .i64 p1.cap, .int .i64 p1.k, .slice h1.an p1.nodes.length h1.cn, .slice h1.al p1.links.length h1.cl, .slice h1.ad p1.dests.length h1.cd, .slice h1.ac p1.checks.length h1.cc, .int .i64 p2.proto, .int .i64 p2.cap, .int .i64 p2.k, .slice h2.an p2.nodes.length h2.cn, .slice h2.al p2.links.length h2.cl, .slice h2.ad p2.dests.length h2.cd, .slice h2.ac p2.checks.length h2.cc] 29)) = w4 at *
  generalize w3.heap.size = bs at *
  go_loopw [23] (fun si wx => ∃ i : Nat, i ≤ 2 ∧ si = .int .i64 (i : Int) ∧ GS w wx bs p1 h1 p2 h2) (fun si _ => 2 - (intOf si).toNat)
  case atStart => exact ⟨0, by omega, rfl, G1.out⟩
  case round =>
    clear G1
    obtain ⟨i, hi, rfl, hG⟩ := hrel
    have GX := Lib.hid hG
    clear hG
    by_cases hlt : i < 2
    rotate_left
    · have hi2 : i = 2 := by omega
      subst hi2
      clear hlt hi
      go_wp2
      go_ret
      exact ⟨rfl, GX.out.below⟩
    · go_upto_region 4 with fail
      go_cut [13] (fun s wx => ∃ (b : Nat) (p : Net) (h : Hd), s = .pointer (some ⟨b, 0, none⟩) ∧ GB w wx bs p1 h1 p2 h2 b p h ∧ Small p)
      case first =>
        have hi01 : i = 0 ∨ i = 1 := by omega
        rcases hi01 with rfl | rfl
        · obtain ⟨g0, g1, g2, g3, g4, g5, g6⟩ := GX.out.at1
          have hb : Below wr.heap.size wr (wr.alloc (.cells (netCells p1 h1) 29)) := (Below.refl _ _).alloc (Nat.le_refl _) _
          have GN : Hid (GB w (wr.alloc (.cells (netCells p1 h1) 29)) bs p1 h1 p2 h2 wr.heap.size p1 h1) := Lib.hid ⟨GX.out.call hb, heap_alloc_new _ _, GX.out.n1.call hb⟩
          unfold netCells at GN
          clear hb
          go_wp2_with fail
          go_meet
          case rel => exact ⟨_, p1, h1, rfl, GN.out, S1.out⟩
        · obtain ⟨g0, g1, g2, g3, g4, g5, g6⟩ := GX.out.at2
          have hb : Below wr.heap.size wr (wr.alloc (.cells (netCells p2 h2) 29)) := (Below.refl _ _).alloc (Nat.le_refl _) _
          have GN : Hid (GB w (wr.alloc (.cells (netCells p2 h2) 29)) bs p1 h1 p2 h2 wr.heap.size p2 h2) := Lib.hid ⟨GX.out.call hb, heap_alloc_new _ _, GX.out.n2.call hb⟩
          unfold netCells at GN
          clear hb
          go_wp2_with fail
          go_meet
          case rel => exact ⟨_, p2, h2, rfl, GN.out, S2.out⟩
      case rest =>
      clear GX
      obtain ⟨b, p, h, rfl, hG, hsm⟩ := hcut
      have GX := Lib.hid hG
      have SP := Lib.hid hsm
      clear hG hsm
      go_wp2_with fail
      refine (pick5_any n1 512 _ I1.out (by omega) (by omega)).mono ?_
      rintro e w' ⟨rfl, rfl⟩
      go_wp2_with fail
      refine (pick5_any n2 8 _ I2.out (by omega) (by omega)).mono ?_
      rintro e w' ⟨rfl, rfl⟩
      go_wp2_with fail
      refine (pick5_any n3 8 _ I3.out (by omega) (by omega)).mono ?_
      rintro e w' ⟨rfl, rfl⟩
      go_wp2_with fail
      refine (pick5_any n4 10 _ I4.out (by omega) (by omega)).mono ?_
      rintro e w' ⟨rfl, rfl⟩
      generalize pickV n1 512 = m1
      generalize pickV n2 8 = m2
      generalize pickV n3 8 = m3
      generalize pickV n4 10 = m4
      go_wp2_with fail
      have R1 : Hid (GB w (wc.alloc (.cells #[.int .i64 n1, .int .i64 n2, .int .i64 n3, .int .i64 n4, .int .i64 m1, .int .i64 m2, .int .i64 m3, .int .i64 m4] 32)) bs p1 h1 p2 h2 b p h ∧ (wc.alloc (.cells #[.int .i64 n1, .int .i64 n2, .int .i64 n3, .int .i64 n4, .int .i64 m1, .int .i64 m2, .int .i64 m3, .int .i64 m4] 32)).heap[wc.heap.size]? = some (.cells #[.int .i64 n1, .int .i64 n2, .int .i64 n3, .int .i64 n4, .int .i64 m1, .int .i64 m2, .int .i64 m3, .int .i64 m4] 32 (0, 0))) := Lib.hid ⟨GX.out.call ((Below.refl _ _).alloc (Nat.le_refl _) _), heap_alloc_new _ _⟩
      clear GX
      generalize (wc.alloc (.cells #[.int .i64 n1, .int .i64 n2, .int .i64 n3, .int .i64 n4, .int .i64 m1, .int .i64 m2, .int .i64 m3, .int .i64 m4] 32)) = wv at *
      generalize wc.heap.size = br at *
      go_loopw [43] (fun sj wx => ∃ j : Nat, j ≤ 2 ∧ sj = .int .i64 (j : Int) ∧ GB w wx bs p1 h1 p2 h2 b p h ∧ wx.heap[br]? = some (.cells #[.int .i64 n1, .int .i64 n2, .int .i64 n3, .int .i64 n4, .int .i64 m1, .int .i64 m2, .int .i64 m3, .int .i64 m4] 32 (0, 0))) (fun sj _ => 2 - (intOf sj).toNat)
      case atStart => exact ⟨0, by omega, rfl, R1.out⟩
      case round =>
        clear R1
        obtain ⟨j, hj, rfl, hG, hR⟩ := hrel
        have GX := Lib.hid hG
        have RX := Lib.hid hR
        clear hG hR
        by_cases hjt : j < 2
        rotate_left
        · have hj2 : j = 2 := by omega
          subst hj2
          clear hjt hj
          go_wp2_with fail
          go_roundw
          case rel => exact ⟨i + 1, by omega, by go_num, GX.out.gs⟩
          case measure => simp [intOf]; omega
        · go_upto_region 7 with fail
          go_cut [15] (fun s wx => ∃ (b2 : Nat) (x0 x1 x2 x3 : Int), s = .pointer (some ⟨b2, 0, none⟩) ∧ GB w wx bs p1 h1 p2 h2 b p h ∧ wx.heap[br]? = some (.cells #[.int .i64 n1, .int .i64 n2, .int .i64 n3, .int .i64 n4, .int .i64 m1, .int .i64 m2, .int .i64 m3, .int .i64 m4] 32 (0, 0)) ∧ wx.heap[b2]? = some (.cells #[.int .i64 x0, .int .i64 x1, .int .i64 x2, .int .i64 x3] 32 (0, 0)))
          case first =>
            have hj01 : j = 0 ∨ j = 1 := by omega
            have RR := RX.out
            have e0 := cell_of_row _ _ 0 _ _ _ RR
            have e1 := cell_of_row _ _ 1 _ _ _ RR
            have e2 := cell_of_row _ _ 2 _ _ _ RR
            have e3 := cell_of_row _ _ 3 _ _ _ RR
            have e4 := cell_of_row _ _ 4 _ _ _ RR
            have e5 := cell_of_row _ _ 5 _ _ _ RR
            have e6 := cell_of_row _ _ 6 _ _ _ RR
            have e7 := cell_of_row _ _ 7 _ _ _ RR
            simp only [List.getElem?_toArray, List.getElem?_cons_zero, List.getElem?_cons_succ] at e0 e1 e2 e3 e4 e5 e6 e7
            have GA := Lib.hid (fun o => GX.out.call ((Below.refl _ _).alloc (Nat.le_refl _) o))
            have RA := Lib.hid (fun o => (Below.heap_alloc wr o br (lt_heap RX.out)).trans RX.out)
            clear RR
            rcases hj01 with rfl | rfl
            · go_wp2_with fail
              go_meet
              case rel => exact ⟨_, n1, n2, n3, n4, rfl, GA.out _, RA.out _, heap_alloc_new _ _⟩
            · go_wp2_with fail
              go_meet
              case rel => exact ⟨_, m1, m2, m3, m4, rfl, GA.out _, RA.out _, heap_alloc_new _ _⟩
          case rest =>
          clear GX RX
          obtain ⟨b2, x0, x1, x2, x3, rfl, hG, hR, hX⟩ := hcut
          have GX := Lib.hid hG
          have RX := Lib.hid hR
          have HX := Lib.hid hX
          clear hG hR hX
          have HC : Hid (∀ wy, Below wc.heap.size wc wy → (wy.cell? ⟨b, 0, none⟩ = some (.int .i64 p.proto) ∧ wy.cell? ⟨b, 1, none⟩ = some (.int .i64 p.cap) ∧ wy.cell? ⟨b, 2, none⟩ = some (.int .i64 p.k) ∧ wy.cell? ⟨b, 3, none⟩ = some (.slice h.an p.nodes.length h.cn) ∧ wy.cell? ⟨b, 4, none⟩ = some (.slice h.al p.links.length h.cl) ∧ wy.cell? ⟨b, 5, none⟩ = some (.slice h.ad p.dests.length h.cd) ∧ wy.cell? ⟨b, 6, none⟩ = some (.slice h.ac p.checks.length h.cc)) ∧ wy.cell? ⟨b2, 0, none⟩ = some (.int .i64 x0) ∧ wy.cell? ⟨b2, 1, none⟩ = some (.int .i64 x1) ∧ wy.cell? ⟨b2, 2, none⟩ = some (.int .i64 x2) ∧ wy.cell? ⟨b2, 3, none⟩ = some (.int .i64 x3)) := Lib.hid (fun wy hb => by
            have hx := (hb.block _ (lt_heap HX.out)).trans HX.out
            exact ⟨(GX.out.call hb).all, cell_of_row wy _ 0 _ _ _ hx, cell_of_row wy _ 1 _ _ _ hx, cell_of_row wy _ 2 _ _ _ hx, cell_of_row wy _ 3 _ _ _ hx⟩)
          have C1 : Hid (∀ wy, Below wc.heap.size wc wy → Calls Try.prog 9 #[.agg #[.int .i64 p.proto, .int .i64 p.cap, .int .i64 p.k, .slice h.an p.nodes.length h.cn, .slice h.al p.links.length h.cl, .slice h.ad p.dests.length h.cd, .slice h.ac p.checks.length h.cc], .int .i64 x0, .int .i64 x1] wy (NatsPost (arG p x0 x1) wy)) := Lib.hid (fun wy hb => around_gen p h x0 x1 wy (GX.out.call hb).net SP.out)
          have C2 : Hid (∀ wy, Below wc.heap.size wc wy → Calls Try.prog 10 #[.agg #[.int .i64 p.proto, .int .i64 p.cap, .int .i64 p.k, .slice h.an p.nodes.length h.cn, .slice h.al p.links.length h.cl, .slice h.ad p.dests.length h.cd, .slice h.ac p.checks.length h.cc], .int .i64 x0, .int .i64 x1] wy (NatsPost (arG p x0 x1) wy)) := Lib.hid (fun wy hb => raround_any p h x0 x1 wy (GX.out.call hb).net SP.out)
          have C4 : Hid (∀ wy, Below wc.heap.size wc wy → Calls Try.prog 11 #[.agg #[.int .i64 p.proto, .int .i64 p.cap, .int .i64 p.k, .slice h.an p.nodes.length h.cn, .slice h.al p.links.length h.cl, .slice h.ad p.dests.length h.cd, .slice h.ac p.checks.length h.cc], .int .i64 x3, .int .i64 x1] wy fun e w' => e = .returned (.int .i64 (rothB p x3 x1)) ∧ Below wy.heap.size wy w') := Lib.hid (fun wy hb => other_gen p h x1 wy (GX.out.call hb).net SP.out x3)
          have C5 : Hid (∀ wy, Below wc.heap.size wc wy → Calls Try.prog 12 #[.agg #[.int .i64 p.proto, .int .i64 p.cap, .int .i64 p.k, .slice h.an p.nodes.length h.cn, .slice h.al p.links.length h.cl, .slice h.ad p.dests.length h.cd, .slice h.ac p.checks.length h.cc], .int .i64 x3, .int .i64 x1] wy fun e w' => e = .returned (.int .i64 (rothB p x3 x1)) ∧ Below wy.heap.size wy w') := Lib.hid (fun wy hb => rother_any p h x3 x1 wy (GX.out.call hb).net SP.out)
          have C6 : Hid (∀ wy, Below wc.heap.size wc wy → Calls Try.prog 13 #[.agg #[.int .i64 p.proto, .int .i64 p.cap, .int .i64 p.k, .slice h.an p.nodes.length h.cn, .slice h.al p.links.length h.cl, .slice h.ad p.dests.length h.cd, .slice h.ac p.checks.length h.cc], .int .i64 x0, .int .i64 x1] wy (NatsPost (reachG p x0 x1) wy)) := Lib.hid (fun wy hb => reach_gen p h x0 x1 wy (GX.out.call hb).net SP.out)
          have C7 : Hid (∀ wy, Below wc.heap.size wc wy → Calls Try.prog 14 #[.agg #[.int .i64 p.proto, .int .i64 p.cap, .int .i64 p.k, .slice h.an p.nodes.length h.cn, .slice h.al p.links.length h.cl, .slice h.ad p.dests.length h.cd, .slice h.ac p.checks.length h.cc], .int .i64 x0, .int .i64 x1] wy (NatsPost (reachG p x0 x1) wy)) := Lib.hid (fun wy hb => rreach_any p h x0 x1 wy (GX.out.call hb).net SP.out)
          have C9 : Hid (∀ wy, Below wc.heap.size wc wy → Calls Try.prog 15 #[.agg #[.int .i64 p.proto, .int .i64 p.cap, .int .i64 p.k, .slice h.an p.nodes.length h.cn, .slice h.al p.links.length h.cl, .slice h.ad p.dests.length h.cd, .slice h.ac p.checks.length h.cc], .int .i64 x0, .int .i64 x1, .int .i64 x2] wy fun e w' => e = .returned (.int .i64 (hopsG p x0 x1 x2)) ∧ Below wy.heap.size wy w') := Lib.hid (fun wy hb => hops_gen p h x0 x1 x2 wy (GX.out.call hb).net SP.out)
          have C10 : Hid (∀ wy, Below wc.heap.size wc wy → Calls Try.prog 16 #[.agg #[.int .i64 p.proto, .int .i64 p.cap, .int .i64 p.k, .slice h.an p.nodes.length h.cn, .slice h.al p.links.length h.cl, .slice h.ad p.dests.length h.cd, .slice h.ac p.checks.length h.cc], .int .i64 x0, .int .i64 x1, .int .i64 x2] wy fun e w' => e = .returned (.int .i64 (hopsG p x0 x1 x2)) ∧ Below wy.heap.size wy w') := Lib.hid (fun wy hb => rhops_any p h x0 x1 x2 wy (GX.out.call hb).net SP.out)
          have C11 : Hid (∀ wy, Below wc.heap.size wc wy → Calls Try.prog 17 #[.agg #[.int .i64 p.proto, .int .i64 p.cap, .int .i64 p.k, .slice h.an p.nodes.length h.cn, .slice h.al p.links.length h.cl, .slice h.ad p.dests.length h.cd, .slice h.ac p.checks.length h.cc], .int .i64 x0] wy (NatsPost (cutG p x0) wy)) := Lib.hid (fun wy hb => cuts_gen p h x0 wy (GX.out.call hb).net SP.out)
          have C12 : Hid (∀ wy, Below wc.heap.size wc wy → Calls Try.prog 18 #[.agg #[.int .i64 p.proto, .int .i64 p.cap, .int .i64 p.k, .slice h.an p.nodes.length h.cn, .slice h.al p.links.length h.cl, .slice h.ad p.dests.length h.cd, .slice h.ac p.checks.length h.cc], .int .i64 x0] wy (NatsPost (cutG p x0) wy)) := Lib.hid (fun wy hb => rcuts_any p h x0 wy (GX.out.call hb).net SP.out)
          have hla : (arG p x0 x1).length ≤ 1000 := Nat.le_trans (arG_len _ _ _) SP.out.links
          have hlr : (reachG p x0 x1).length ≤ 1000 := Nat.le_trans (reachG_len _ _ _) SP.out.nodes
          have hlc : (cutG p x0).length ≤ 1000 := Nat.le_trans (cutG_len _ _) SP.out.links
          generalize arG p x0 x1 = qa at *
          generalize rothB p x3 x1 = qo at *
          generalize reachG p x0 x1 = qr at *
          generalize hopsG p x0 x1 x2 = qh at *
          generalize cutG p x0 = qc at *
          have CI : Hid (∀ (q : List Nat) (A A' : Option Addr) (c c' : Nat) (wy : World), q.length ≤ 1000 → Rd wy wy.heap.size 1 A q.length (nats q) → Rd wy wy.heap.size 1 A' q.length (nats q) → Calls Try.prog 8 #[.slice A q.length c, .slice A' q.length c'] wy fun e w' => e = .returned (.bool true) ∧ Below wy.heap.size wy w') := Lib.hid (fun q A A' c c' wy hl h1 h2 =>
            (refInts_any q q _ _ rfl rfl A A' c c' wy h1 h2 hl hl).mono fun e w' ⟨g1, g2⟩ => ⟨by rw [g1]; simp, g2⟩)
          have hb0 : Below wc.heap.size wc wc.drew := below_drew (Below.refl _ _)
          go_upto_region 8 with fail
          refine wp_region_held_drew (S := (fun wy => (wy.cell? ⟨b, 0, none⟩ = some (.int .i64 p.proto) ∧ wy.cell? ⟨b, 1, none⟩ = some (.int .i64 p.cap) ∧ wy.cell? ⟨b, 2, none⟩ = some (.int .i64 p.k) ∧ wy.cell? ⟨b, 3, none⟩ = some (.slice h.an p.nodes.length h.cn) ∧ wy.cell? ⟨b, 4, none⟩ = some (.slice h.al p.links.length h.cl) ∧ wy.cell? ⟨b, 5, none⟩ = some (.slice h.ad p.dests.length h.cd) ∧ wy.cell? ⟨b, 6, none⟩ = some (.slice h.ac p.checks.length h.cc)) ∧ wy.cell? ⟨b2, 0, none⟩ = some (.int .i64 x0) ∧ wy.cell? ⟨b2, 1, none⟩ = some (.int .i64 x1) ∧ wy.cell? ⟨b2, 2, none⟩ = some (.int .i64 x2) ∧ wy.cell? ⟨b2, 3, none⟩ = some (.int .i64 x3))) (by kernel_rfl) (HC.out _ hb0) (fun hHeld0 => ?_)
          refine take_list (i := 0) (v := ?_) rfl (by kernel_rfl) (by kernel_rfl) (by kernel_rfl) (fun _ _ _ h => h) (Or.inl ⟨by rfl, ?_⟩) (by assumption) ?_
          rotate_left
          · (intro w hSw; (try dsimp only at hSw); go_simp; try (with_reducible rfl))
          try simp only [Act.put, List.setIfInBounds_toArray, List.set_cons_zero, List.set_cons_succ]
          refine take_list (i := 1) (v := ?_) rfl (by kernel_rfl) (by kernel_rfl) (by kernel_rfl) (fun _ _ _ h => h) (Or.inl ⟨by rfl, ?_⟩) (by assumption) ?_
          rotate_left
          · (intro w hSw; (try dsimp only at hSw); go_simp; try (with_reducible rfl))
          try simp only [Act.put, List.setIfInBounds_toArray, List.set_cons_zero, List.set_cons_succ]
          refine take_list (i := 2) (v := ?_) rfl (by kernel_rfl) (by kernel_rfl) (by kernel_rfl) (fun _ _ _ h => h) (Or.inl ⟨by rfl, ?_⟩) (by assumption) ?_
          rotate_left
          · (intro w hSw; (try dsimp only at hSw); go_simp; try (with_reducible rfl))
          try simp only [Act.put, List.setIfInBounds_toArray, List.set_cons_zero, List.set_cons_succ]
          refine take_list (i := 3) (v := ?_) rfl (by kernel_rfl) (by kernel_rfl) (by kernel_rfl) (fun _ _ _ h => h) (Or.inl ⟨by rfl, ?_⟩) (by assumption) ?_
          rotate_left
          · (intro w hSw; (try dsimp only at hSw); go_simp; try (with_reducible rfl))
          try simp only [Act.put, List.setIfInBounds_toArray, List.set_cons_zero, List.set_cons_succ]
          refine take_list (i := 4) (v := ?_) rfl (by kernel_rfl) (by kernel_rfl) (by kernel_rfl) (fun _ _ _ h => h) (Or.inl ⟨by rfl, ?_⟩) (by assumption) ?_
          rotate_left
          · (intro w hSw; (try dsimp only at hSw); go_simp; try (with_reducible rfl))
          try simp only [Act.put, List.setIfInBounds_toArray, List.set_cons_zero, List.set_cons_succ]
          refine take_list (i := 6) (v := ?_) rfl (by kernel_rfl) (by kernel_rfl) (by kernel_rfl) (fun _ _ _ h => h) (Or.inl ⟨by rfl, ?_⟩) (by assumption) ?_
          rotate_left
          · (intro w hSw; (try dsimp only at hSw); go_simp; try (with_reducible rfl))
          try simp only [Act.put, List.setIfInBounds_toArray, List.set_cons_zero, List.set_cons_succ]
          refine take_list (i := 7) (v := ?_) rfl (by kernel_rfl) (by kernel_rfl) (by kernel_rfl) (fun _ _ _ h => h) (Or.inl ⟨by rfl, ?_⟩) (by assumption) ?_
          rotate_left
          · (intro w hSw; (try dsimp only at hSw); go_simp; try (with_reducible rfl))
          try simp only [Act.put, List.setIfInBounds_toArray, List.set_cons_zero, List.set_cons_succ]
          refine take_list (i := 8) (v := ?_) rfl (by kernel_rfl) (by kernel_rfl) (by kernel_rfl) (fun _ _ _ h => h) (Or.inl ⟨by rfl, ?_⟩) (by assumption) ?_
          rotate_left
          · (intro w hSw; (try dsimp only at hSw); go_simp; try (with_reducible rfl))
          try simp only [Act.put, List.setIfInBounds_toArray, List.set_cons_zero, List.set_cons_succ]
          refine take_list (i := 9) (v := ?_) rfl (by kernel_rfl) (by kernel_rfl) (by kernel_rfl) (fun _ _ _ h => h) (Or.inl ⟨by rfl, ?_⟩) (by assumption) ?_
          rotate_left
          · (intro w hSw; (try dsimp only at hSw); go_simp; try (with_reducible rfl))
          try simp only [Act.put, List.setIfInBounds_toArray, List.set_cons_zero, List.set_cons_succ]
          refine take_list (i := 10) (v := ?_) rfl (by kernel_rfl) (by kernel_rfl) (by kernel_rfl) (fun _ _ _ h => h) (Or.inl ⟨by rfl, ?_⟩) (by assumption) ?_
          rotate_left
          · (intro w hSw; (try dsimp only at hSw); go_simp; try (with_reducible rfl))
          try simp only [Act.put, List.setIfInBounds_toArray, List.set_cons_zero, List.set_cons_succ]
          refine wpAnyH_ready (rs := [5]) (by kernel_rfl) (by simp) ?_
          refine cons_list rfl (fun K hK => ?_) AllReadyH.nil
          go_simp
          (go_at_call 9; refine (C1.out _ hb0).mono ?_; rintro e wq1 ⟨Aq1, cq1, rfl, ho1, hc1⟩; have hb1 := since_trans hb0 hc1)
          refine hK.out _ _ (HC.out _ (by assumption)) (fun hHeld1 => ?_)
          clear hK K hHeld0
          try simp only [Act.put, List.setIfInBounds_toArray, List.set_cons_zero, List.set_cons_succ]
          refine wpAnyH_ready (rs := [11]) (by kernel_rfl) (by simp) ?_
          refine cons_list rfl (fun K hK => ?_) AllReadyH.nil
          go_simp
          (go_at_call 10; refine (C2.out _ hb1).mono ?_; rintro e wq2 ⟨Aq2, cq2, rfl, ho2, hc2⟩; have hb2 := since_trans hb1 hc2)
          refine hK.out _ _ (HC.out _ (by assumption)) (fun hHeld2 => ?_)
          clear hK K hHeld1
          try simp only [Act.put, List.setIfInBounds_toArray, List.set_cons_zero, List.set_cons_succ]
          refine wpAnyH_ready (rs := [12]) (by kernel_rfl) (by simp) ?_
          refine cons_list rfl (fun K hK => ?_) AllReadyH.nil
          go_simp
          (go_at_call 8; refine (CI.out qa _ _ _ _ _ hla (ho1.call hc2).rd ho2.rd).mono ?_; rintro e wq3 ⟨rfl, hc3⟩; have hb3 := since_trans hb2 hc3)
          refine hK.out _ _ (HC.out _ (by assumption)) (fun hHeld3 => ?_)
          clear hK K hHeld2
          try simp only [Act.put, List.setIfInBounds_toArray, List.set_cons_zero, List.set_cons_succ]
          refine take_list (i := 13) (v := ?_) rfl (by kernel_rfl) (by kernel_rfl) (by kernel_rfl) (fun _ _ _ h => h) (Or.inl ⟨by rfl, ?_⟩) (by assumption) ?_
          rotate_left
          · (intro w hSw; (try dsimp only at hSw); go_simp; try (with_reducible rfl))
          try simp only [Act.put, List.setIfInBounds_toArray, List.set_cons_zero, List.set_cons_succ]
          refine take_list (i := 14) (v := ?_) rfl (by kernel_rfl) (by kernel_rfl) (by kernel_rfl) (fun _ _ _ h => h) (Or.inl ⟨by rfl, ?_⟩) (by assumption) ?_
          rotate_left
          · (intro w hSw; (try dsimp only at hSw); go_simp; try (with_reducible rfl))
          try simp only [Act.put, List.setIfInBounds_toArray, List.set_cons_zero, List.set_cons_succ]
          refine take_list (i := 15) (v := ?_) rfl (by kernel_rfl) (by kernel_rfl) (by kernel_rfl) (fun _ _ _ h => h) (Or.inl ⟨by rfl, ?_⟩) (by assumption) ?_
          rotate_left
          · (intro w hSw; (try dsimp only at hSw); go_simp; try (with_reducible rfl))
          try simp only [Act.put, List.setIfInBounds_toArray, List.set_cons_zero, List.set_cons_succ]
          refine take_list (i := 16) (v := ?_) rfl (by kernel_rfl) (by kernel_rfl) (by kernel_rfl) (fun _ _ _ h => h) (Or.inl ⟨by rfl, ?_⟩) (by assumption) ?_
          rotate_left
          · (intro w hSw; (try dsimp only at hSw); go_simp; try (with_reducible rfl))
          try simp only [Act.put, List.setIfInBounds_toArray, List.set_cons_zero, List.set_cons_succ]
          refine take_list (i := 17) (v := ?_) rfl (by kernel_rfl) (by kernel_rfl) (by kernel_rfl) (fun _ _ _ h => h) (Or.inl ⟨by rfl, ?_⟩) (by assumption) ?_
          rotate_left
          · (intro w hSw; (try dsimp only at hSw); go_simp; try (with_reducible rfl))
          try simp only [Act.put, List.setIfInBounds_toArray, List.set_cons_zero, List.set_cons_succ]
          refine take_list (i := 18) (v := ?_) rfl (by kernel_rfl) (by kernel_rfl) (by kernel_rfl) (fun _ _ _ h => h) (Or.inl ⟨by rfl, ?_⟩) (by assumption) ?_
          rotate_left
          · (intro w hSw; (try dsimp only at hSw); go_simp; try (with_reducible rfl))
          try simp only [Act.put, List.setIfInBounds_toArray, List.set_cons_zero, List.set_cons_succ]
          refine take_list (i := 19) (v := ?_) rfl (by kernel_rfl) (by kernel_rfl) (by kernel_rfl) (fun _ _ _ h => h) (Or.inl ⟨by rfl, ?_⟩) (by assumption) ?_
          rotate_left
          · (intro w hSw; (try dsimp only at hSw); go_simp; try (with_reducible rfl))
          try simp only [Act.put, List.setIfInBounds_toArray, List.set_cons_zero, List.set_cons_succ]
          refine take_list (i := 21) (v := ?_) rfl (by kernel_rfl) (by kernel_rfl) (by kernel_rfl) (fun _ _ _ h => h) (Or.inl ⟨by rfl, ?_⟩) (by assumption) ?_
          rotate_left
          · (intro w hSw; (try dsimp only at hSw); go_simp; try (with_reducible rfl))
          try simp only [Act.put, List.setIfInBounds_toArray, List.set_cons_zero, List.set_cons_succ]
          refine take_list (i := 22) (v := ?_) rfl (by kernel_rfl) (by kernel_rfl) (by kernel_rfl) (fun _ _ _ h => h) (Or.inl ⟨by rfl, ?_⟩) (by assumption) ?_
          rotate_left
          · (intro w hSw; (try dsimp only at hSw); go_simp; try (with_reducible rfl))
          try simp only [Act.put, List.setIfInBounds_toArray, List.set_cons_zero, List.set_cons_succ]
          refine take_list (i := 23) (v := ?_) rfl (by kernel_rfl) (by kernel_rfl) (by kernel_rfl) (fun _ _ _ h => h) (Or.inl ⟨by rfl, ?_⟩) (by assumption) ?_
          rotate_left
          · (intro w hSw; (try dsimp only at hSw); go_simp; try (with_reducible rfl))
          try simp only [Act.put, List.setIfInBounds_toArray, List.set_cons_zero, List.set_cons_succ]
          refine take_list (i := 24) (v := ?_) rfl (by kernel_rfl) (by kernel_rfl) (by kernel_rfl) (fun _ _ _ h => h) (Or.inl ⟨by rfl, ?_⟩) (by assumption) ?_
          rotate_left
          · (intro w hSw; (try dsimp only at hSw); go_simp; try (with_reducible rfl))
          try simp only [Act.put, List.setIfInBounds_toArray, List.set_cons_zero, List.set_cons_succ]
          refine take_list (i := 25) (v := ?_) rfl (by kernel_rfl) (by kernel_rfl) (by kernel_rfl) (fun _ _ _ h => h) (Or.inl ⟨by rfl, ?_⟩) (by assumption) ?_
          rotate_left
          · (intro w hSw; (try dsimp only at hSw); go_simp; try (with_reducible rfl))
          try simp only [Act.put, List.setIfInBounds_toArray, List.set_cons_zero, List.set_cons_succ]
          refine wpAnyH_ready (rs := [20]) (by kernel_rfl) (by simp) ?_
          refine cons_list rfl (fun K hK => ?_) AllReadyH.nil
          go_simp
          (go_at_call 11; refine (C4.out _ hb3).mono ?_; rintro e wq4 ⟨rfl, hc4⟩; have hb4 := since_trans hb3 hc4)
          refine hK.out _ _ (HC.out _ (by assumption)) (fun hHeld4 => ?_)
          clear hK K hHeld3
          try simp only [Act.put, List.setIfInBounds_toArray, List.set_cons_zero, List.set_cons_succ]
          refine wpAnyH_ready (rs := [26]) (by kernel_rfl) (by simp) ?_
          refine cons_list rfl (fun K hK => ?_) AllReadyH.nil
          go_simp
          (go_at_call 12; refine (C5.out _ hb4).mono ?_; rintro e wq5 ⟨rfl, hc5⟩; have hb5 := since_trans hb4 hc5)
          refine hK.out _ _ (HC.out _ (by assumption)) (fun hHeld5 => ?_)
          clear hK K hHeld4
          try simp only [Act.put, List.setIfInBounds_toArray, List.set_cons_zero, List.set_cons_succ]
          refine take_list (i := 27) (v := ?_) rfl (by kernel_rfl) (by kernel_rfl) (by kernel_rfl) (fun _ _ _ h => h) (Or.inl ⟨by rfl, ?_⟩) (by assumption) ?_
          rotate_left
          · (intro w hSw; (try dsimp only at hSw); go_simp; try (with_reducible rfl))
          try simp only [Act.put, List.setIfInBounds_toArray, List.set_cons_zero, List.set_cons_succ]
          refine take_list (i := 28) (v := ?_) rfl (by kernel_rfl) (by kernel_rfl) (by kernel_rfl) (fun _ _ _ h => h) (Or.inl ⟨by rfl, ?_⟩) (by assumption) ?_
          rotate_left
          · (intro w hSw; (try dsimp only at hSw); go_simp; try (with_reducible rfl))
          try simp only [Act.put, List.setIfInBounds_toArray, List.set_cons_zero, List.set_cons_succ]
          refine take_list (i := 29) (v := ?_) rfl (by kernel_rfl) (by kernel_rfl) (by kernel_rfl) (fun _ _ _ h => h) (Or.inl ⟨by rfl, ?_⟩) (by assumption) ?_
          rotate_left
          · (intro w hSw; (try dsimp only at hSw); go_simp; try (with_reducible rfl))
          try simp only [Act.put, List.setIfInBounds_toArray, List.set_cons_zero, List.set_cons_succ]
          refine take_list (i := 30) (v := ?_) rfl (by kernel_rfl) (by kernel_rfl) (by kernel_rfl) (fun _ _ _ h => h) (Or.inl ⟨by rfl, ?_⟩) (by assumption) ?_
          rotate_left
          · (intro w hSw; (try dsimp only at hSw); go_simp; try (with_reducible rfl))
          try simp only [Act.put, List.setIfInBounds_toArray, List.set_cons_zero, List.set_cons_succ]
          refine take_list (i := 31) (v := ?_) rfl (by kernel_rfl) (by kernel_rfl) (by kernel_rfl) (fun _ _ _ h => h) (Or.inl ⟨by rfl, ?_⟩) (by assumption) ?_
          rotate_left
          · (intro w hSw; (try dsimp only at hSw); go_simp; try (with_reducible rfl))
          try simp only [Act.put, List.setIfInBounds_toArray, List.set_cons_zero, List.set_cons_succ]
          refine take_list (i := 32) (v := ?_) rfl (by kernel_rfl) (by kernel_rfl) (by kernel_rfl) (fun _ _ _ h => h) (Or.inl ⟨by rfl, ?_⟩) (by assumption) ?_
          rotate_left
          · (intro w hSw; (try dsimp only at hSw); go_simp; try (with_reducible rfl))
          try simp only [Act.put, List.setIfInBounds_toArray, List.set_cons_zero, List.set_cons_succ]
          refine take_list (i := 33) (v := ?_) rfl (by kernel_rfl) (by kernel_rfl) (by kernel_rfl) (fun _ _ _ h => h) (Or.inl ⟨by rfl, ?_⟩) (by assumption) ?_
          rotate_left
          · (intro w hSw; (try dsimp only at hSw); go_simp; try (with_reducible rfl))
          try simp only [Act.put, List.setIfInBounds_toArray, List.set_cons_zero, List.set_cons_succ]
          refine take_list (i := 34) (v := ?_) rfl (by kernel_rfl) (by kernel_rfl) (by kernel_rfl) (fun _ _ _ h => h) (Or.inl ⟨by rfl, ?_⟩) (by assumption) ?_
          rotate_left
          · (intro w hSw; (try dsimp only at hSw); go_simp; try (with_reducible rfl))
          try simp only [Act.put, List.setIfInBounds_toArray, List.set_cons_zero, List.set_cons_succ]
          refine take_list (i := 36) (v := ?_) rfl (by kernel_rfl) (by kernel_rfl) (by kernel_rfl) (fun _ _ _ h => h) (Or.inl ⟨by rfl, ?_⟩) (by assumption) ?_
          rotate_left
          · (intro w hSw; (try dsimp only at hSw); go_simp; try (with_reducible rfl))
          try simp only [Act.put, List.setIfInBounds_toArray, List.set_cons_zero, List.set_cons_succ]
          refine take_list (i := 37) (v := ?_) rfl (by kernel_rfl) (by kernel_rfl) (by kernel_rfl) (fun _ _ _ h => h) (Or.inl ⟨by rfl, ?_⟩) (by assumption) ?_
          rotate_left
          · (intro w hSw; (try dsimp only at hSw); go_simp; try (with_reducible rfl))
          try simp only [Act.put, List.setIfInBounds_toArray, List.set_cons_zero, List.set_cons_succ]
          refine take_list (i := 38) (v := ?_) rfl (by kernel_rfl) (by kernel_rfl) (by kernel_rfl) (fun _ _ _ h => h) (Or.inl ⟨by rfl, ?_⟩) (by assumption) ?_
          rotate_left
          · (intro w hSw; (try dsimp only at hSw); go_simp; try (with_reducible rfl))
          try simp only [Act.put, List.setIfInBounds_toArray, List.set_cons_zero, List.set_cons_succ]
          refine take_list (i := 39) (v := ?_) rfl (by kernel_rfl) (by kernel_rfl) (by kernel_rfl) (fun _ _ _ h => h) (Or.inl ⟨by rfl, ?_⟩) (by assumption) ?_
          rotate_left
          · (intro w hSw; (try dsimp only at hSw); go_simp; try (with_reducible rfl))
          try simp only [Act.put, List.setIfInBounds_toArray, List.set_cons_zero, List.set_cons_succ]
          refine take_list (i := 40) (v := ?_) rfl (by kernel_rfl) (by kernel_rfl) (by kernel_rfl) (fun _ _ _ h => h) (Or.inl ⟨by rfl, ?_⟩) (by assumption) ?_
          rotate_left
          · (intro w hSw; (try dsimp only at hSw); go_simp; try (with_reducible rfl))
          try simp only [Act.put, List.setIfInBounds_toArray, List.set_cons_zero, List.set_cons_succ]
          refine wpAnyH_ready (rs := [35]) (by kernel_rfl) (by simp) ?_
          refine cons_list rfl (fun K hK => ?_) AllReadyH.nil
          go_simp
          (go_at_call 13; refine (C6.out _ hb5).mono ?_; rintro e wq6 ⟨Aq6, cq6, rfl, ho6, hc6⟩; have hb6 := since_trans hb5 hc6)
          refine hK.out _ _ (HC.out _ (by assumption)) (fun hHeld6 => ?_)
          clear hK K hHeld5
          try simp only [Act.put, List.setIfInBounds_toArray, List.set_cons_zero, List.set_cons_succ]
          refine wpAnyH_ready (rs := [41]) (by kernel_rfl) (by simp) ?_
          refine cons_list rfl (fun K hK => ?_) AllReadyH.nil
          go_simp
          (go_at_call 14; refine (C7.out _ hb6).mono ?_; rintro e wq7 ⟨Aq7, cq7, rfl, ho7, hc7⟩; have hb7 := since_trans hb6 hc7)
          refine hK.out _ _ (HC.out _ (by assumption)) (fun hHeld7 => ?_)
          clear hK K hHeld6
          try simp only [Act.put, List.setIfInBounds_toArray, List.set_cons_zero, List.set_cons_succ]
          refine wpAnyH_ready (rs := [42]) (by kernel_rfl) (by simp) ?_
          refine cons_list rfl (fun K hK => ?_) AllReadyH.nil
          go_simp
          (go_at_call 8; refine (CI.out qr _ _ _ _ _ hlr (ho6.call hc7).rd ho7.rd).mono ?_; rintro e wq8 ⟨rfl, hc8⟩; have hb8 := since_trans hb7 hc8)
          refine hK.out _ _ (HC.out _ (by assumption)) (fun hHeld8 => ?_)
          clear hK K hHeld7
          try simp only [Act.put, List.setIfInBounds_toArray, List.set_cons_zero, List.set_cons_succ]
          refine take_list (i := 43) (v := ?_) rfl (by kernel_rfl) (by kernel_rfl) (by kernel_rfl) (fun _ _ _ h => h) (Or.inl ⟨by rfl, ?_⟩) (by assumption) ?_
          rotate_left
          · (intro w hSw; (try dsimp only at hSw); go_simp; try (with_reducible rfl))
          try simp only [Act.put, List.setIfInBounds_toArray, List.set_cons_zero, List.set_cons_succ]
          refine take_list (i := 44) (v := ?_) rfl (by kernel_rfl) (by kernel_rfl) (by kernel_rfl) (fun _ _ _ h => h) (Or.inl ⟨by rfl, ?_⟩) (by assumption) ?_
          rotate_left
          · (intro w hSw; (try dsimp only at hSw); go_simp; try (with_reducible rfl))
          try simp only [Act.put, List.setIfInBounds_toArray, List.set_cons_zero, List.set_cons_succ]
          refine take_list (i := 45) (v := ?_) rfl (by kernel_rfl) (by kernel_rfl) (by kernel_rfl) (fun _ _ _ h => h) (Or.inl ⟨by rfl, ?_⟩) (by assumption) ?_
          rotate_left
          · (intro w hSw; (try dsimp only at hSw); go_simp; try (with_reducible rfl))
          try simp only [Act.put, List.setIfInBounds_toArray, List.set_cons_zero, List.set_cons_succ]
          refine take_list (i := 46) (v := ?_) rfl (by kernel_rfl) (by kernel_rfl) (by kernel_rfl) (fun _ _ _ h => h) (Or.inl ⟨by rfl, ?_⟩) (by assumption) ?_
          rotate_left
          · (intro w hSw; (try dsimp only at hSw); go_simp; try (with_reducible rfl))
          try simp only [Act.put, List.setIfInBounds_toArray, List.set_cons_zero, List.set_cons_succ]
          refine take_list (i := 47) (v := ?_) rfl (by kernel_rfl) (by kernel_rfl) (by kernel_rfl) (fun _ _ _ h => h) (Or.inl ⟨by rfl, ?_⟩) (by assumption) ?_
          rotate_left
          · (intro w hSw; (try dsimp only at hSw); go_simp; try (with_reducible rfl))
          try simp only [Act.put, List.setIfInBounds_toArray, List.set_cons_zero, List.set_cons_succ]
          refine take_list (i := 48) (v := ?_) rfl (by kernel_rfl) (by kernel_rfl) (by kernel_rfl) (fun _ _ _ h => h) (Or.inl ⟨by rfl, ?_⟩) (by assumption) ?_
          rotate_left
          · (intro w hSw; (try dsimp only at hSw); go_simp; try (with_reducible rfl))
          try simp only [Act.put, List.setIfInBounds_toArray, List.set_cons_zero, List.set_cons_succ]
          refine take_list (i := 49) (v := ?_) rfl (by kernel_rfl) (by kernel_rfl) (by kernel_rfl) (fun _ _ _ h => h) (Or.inl ⟨by rfl, ?_⟩) (by assumption) ?_
          rotate_left
          · (intro w hSw; (try dsimp only at hSw); go_simp; try (with_reducible rfl))
          try simp only [Act.put, List.setIfInBounds_toArray, List.set_cons_zero, List.set_cons_succ]
          refine take_list (i := 50) (v := ?_) rfl (by kernel_rfl) (by kernel_rfl) (by kernel_rfl) (fun _ _ _ h => h) (Or.inl ⟨by rfl, ?_⟩) (by assumption) ?_
          rotate_left
          · (intro w hSw; (try dsimp only at hSw); go_simp; try (with_reducible rfl))
          try simp only [Act.put, List.setIfInBounds_toArray, List.set_cons_zero, List.set_cons_succ]
          refine take_list (i := 51) (v := ?_) rfl (by kernel_rfl) (by kernel_rfl) (by kernel_rfl) (fun _ _ _ h => h) (Or.inl ⟨by rfl, ?_⟩) (by assumption) ?_
          rotate_left
          · (intro w hSw; (try dsimp only at hSw); go_simp; try (with_reducible rfl))
          try simp only [Act.put, List.setIfInBounds_toArray, List.set_cons_zero, List.set_cons_succ]
          refine take_list (i := 52) (v := ?_) rfl (by kernel_rfl) (by kernel_rfl) (by kernel_rfl) (fun _ _ _ h => h) (Or.inl ⟨by rfl, ?_⟩) (by assumption) ?_
          rotate_left
          · (intro w hSw; (try dsimp only at hSw); go_simp; try (with_reducible rfl))
          try simp only [Act.put, List.setIfInBounds_toArray, List.set_cons_zero, List.set_cons_succ]
          refine take_list (i := 54) (v := ?_) rfl (by kernel_rfl) (by kernel_rfl) (by kernel_rfl) (fun _ _ _ h => h) (Or.inl ⟨by rfl, ?_⟩) (by assumption) ?_
          rotate_left
          · (intro w hSw; (try dsimp only at hSw); go_simp; try (with_reducible rfl))
          try simp only [Act.put, List.setIfInBounds_toArray, List.set_cons_zero, List.set_cons_succ]
          refine take_list (i := 55) (v := ?_) rfl (by kernel_rfl) (by kernel_rfl) (by kernel_rfl) (fun _ _ _ h => h) (Or.inl ⟨by rfl, ?_⟩) (by assumption) ?_
          rotate_left
          · (intro w hSw; (try dsimp only at hSw); go_simp; try (with_reducible rfl))
          try simp only [Act.put, List.setIfInBounds_toArray, List.set_cons_zero, List.set_cons_succ]
          refine take_list (i := 56) (v := ?_) rfl (by kernel_rfl) (by kernel_rfl) (by kernel_rfl) (fun _ _ _ h => h) (Or.inl ⟨by rfl, ?_⟩) (by assumption) ?_
          rotate_left
          · (intro w hSw; (try dsimp only at hSw); go_simp; try (with_reducible rfl))
          try simp only [Act.put, List.setIfInBounds_toArray, List.set_cons_zero, List.set_cons_succ]
          refine take_list (i := 57) (v := ?_) rfl (by kernel_rfl) (by kernel_rfl) (by kernel_rfl) (fun _ _ _ h => h) (Or.inl ⟨by rfl, ?_⟩) (by assumption) ?_
          rotate_left
          · (intro w hSw; (try dsimp only at hSw); go_simp; try (with_reducible rfl))
          try simp only [Act.put, List.setIfInBounds_toArray, List.set_cons_zero, List.set_cons_succ]
          refine take_list (i := 58) (v := ?_) rfl (by kernel_rfl) (by kernel_rfl) (by kernel_rfl) (fun _ _ _ h => h) (Or.inl ⟨by rfl, ?_⟩) (by assumption) ?_
          rotate_left
          · (intro w hSw; (try dsimp only at hSw); go_simp; try (with_reducible rfl))
          try simp only [Act.put, List.setIfInBounds_toArray, List.set_cons_zero, List.set_cons_succ]
          refine take_list (i := 59) (v := ?_) rfl (by kernel_rfl) (by kernel_rfl) (by kernel_rfl) (fun _ _ _ h => h) (Or.inl ⟨by rfl, ?_⟩) (by assumption) ?_
          rotate_left
          · (intro w hSw; (try dsimp only at hSw); go_simp; try (with_reducible rfl))
          try simp only [Act.put, List.setIfInBounds_toArray, List.set_cons_zero, List.set_cons_succ]
          refine take_list (i := 60) (v := ?_) rfl (by kernel_rfl) (by kernel_rfl) (by kernel_rfl) (fun _ _ _ h => h) (Or.inl ⟨by rfl, ?_⟩) (by assumption) ?_
          rotate_left
          · (intro w hSw; (try dsimp only at hSw); go_simp; try (with_reducible rfl))
          try simp only [Act.put, List.setIfInBounds_toArray, List.set_cons_zero, List.set_cons_succ]
          refine wpAnyH_ready (rs := [53]) (by kernel_rfl) (by simp) ?_
          refine cons_list rfl (fun K hK => ?_) AllReadyH.nil
          go_simp
          (go_at_call 15; refine (C9.out _ hb8).mono ?_; rintro e wq9 ⟨rfl, hc9⟩; have hb9 := since_trans hb8 hc9)
          refine hK.out _ _ (HC.out _ (by assumption)) (fun hHeld9 => ?_)
          clear hK K hHeld8
          try simp only [Act.put, List.setIfInBounds_toArray, List.set_cons_zero, List.set_cons_succ]
          refine wpAnyH_ready (rs := [61]) (by kernel_rfl) (by simp) ?_
          refine cons_list rfl (fun K hK => ?_) AllReadyH.nil
          go_simp
          (go_at_call 16; refine (C10.out _ hb9).mono ?_; rintro e wq10 ⟨rfl, hc10⟩; have hb10 := since_trans hb9 hc10)
          refine hK.out _ _ (HC.out _ (by assumption)) (fun hHeld10 => ?_)
          clear hK K hHeld9
          try simp only [Act.put, List.setIfInBounds_toArray, List.set_cons_zero, List.set_cons_succ]
          refine take_list (i := 62) (v := ?_) rfl (by kernel_rfl) (by kernel_rfl) (by kernel_rfl) (fun _ _ _ h => h) (Or.inl ⟨by rfl, ?_⟩) (by assumption) ?_
          rotate_left
          · (intro w hSw; (try dsimp only at hSw); go_simp; try (with_reducible rfl))
          try simp only [Act.put, List.setIfInBounds_toArray, List.set_cons_zero, List.set_cons_succ]
          refine take_list (i := 63) (v := ?_) rfl (by kernel_rfl) (by kernel_rfl) (by kernel_rfl) (fun _ _ _ h => h) (Or.inl ⟨by rfl, ?_⟩) (by assumption) ?_
          rotate_left
          · (intro w hSw; (try dsimp only at hSw); go_simp; try (with_reducible rfl))
          try simp only [Act.put, List.setIfInBounds_toArray, List.set_cons_zero, List.set_cons_succ]
          refine take_list (i := 64) (v := ?_) rfl (by kernel_rfl) (by kernel_rfl) (by kernel_rfl) (fun _ _ _ h => h) (Or.inl ⟨by rfl, ?_⟩) (by assumption) ?_
          rotate_left
          · (intro w hSw; (try dsimp only at hSw); go_simp; try (with_reducible rfl))
          try simp only [Act.put, List.setIfInBounds_toArray, List.set_cons_zero, List.set_cons_succ]
          refine take_list (i := 65) (v := ?_) rfl (by kernel_rfl) (by kernel_rfl) (by kernel_rfl) (fun _ _ _ h => h) (Or.inl ⟨by rfl, ?_⟩) (by assumption) ?_
          rotate_left
          · (intro w hSw; (try dsimp only at hSw); go_simp; try (with_reducible rfl))
          try simp only [Act.put, List.setIfInBounds_toArray, List.set_cons_zero, List.set_cons_succ]
          refine take_list (i := 66) (v := ?_) rfl (by kernel_rfl) (by kernel_rfl) (by kernel_rfl) (fun _ _ _ h => h) (Or.inl ⟨by rfl, ?_⟩) (by assumption) ?_
          rotate_left
          · (intro w hSw; (try dsimp only at hSw); go_simp; try (with_reducible rfl))
          try simp only [Act.put, List.setIfInBounds_toArray, List.set_cons_zero, List.set_cons_succ]
          refine take_list (i := 67) (v := ?_) rfl (by kernel_rfl) (by kernel_rfl) (by kernel_rfl) (fun _ _ _ h => h) (Or.inl ⟨by rfl, ?_⟩) (by assumption) ?_
          rotate_left
          · (intro w hSw; (try dsimp only at hSw); go_simp; try (with_reducible rfl))
          try simp only [Act.put, List.setIfInBounds_toArray, List.set_cons_zero, List.set_cons_succ]
          refine take_list (i := 69) (v := ?_) rfl (by kernel_rfl) (by kernel_rfl) (by kernel_rfl) (fun _ _ _ h => h) (Or.inl ⟨by rfl, ?_⟩) (by assumption) ?_
          rotate_left
          · (intro w hSw; (try dsimp only at hSw); go_simp; try (with_reducible rfl))
          try simp only [Act.put, List.setIfInBounds_toArray, List.set_cons_zero, List.set_cons_succ]
          refine take_list (i := 70) (v := ?_) rfl (by kernel_rfl) (by kernel_rfl) (by kernel_rfl) (fun _ _ _ h => h) (Or.inl ⟨by rfl, ?_⟩) (by assumption) ?_
          rotate_left
          · (intro w hSw; (try dsimp only at hSw); go_simp; try (with_reducible rfl))
          try simp only [Act.put, List.setIfInBounds_toArray, List.set_cons_zero, List.set_cons_succ]
          refine take_list (i := 71) (v := ?_) rfl (by kernel_rfl) (by kernel_rfl) (by kernel_rfl) (fun _ _ _ h => h) (Or.inl ⟨by rfl, ?_⟩) (by assumption) ?_
          rotate_left
          · (intro w hSw; (try dsimp only at hSw); go_simp; try (with_reducible rfl))
          try simp only [Act.put, List.setIfInBounds_toArray, List.set_cons_zero, List.set_cons_succ]
          refine wpAnyH_ready (rs := [68]) (by kernel_rfl) (by simp) ?_
          refine cons_list rfl (fun K hK => ?_) AllReadyH.nil
          go_simp
          (go_at_call 17; refine (C11.out _ hb10).mono ?_; rintro e wq11 ⟨Aq11, cq11, rfl, ho11, hc11⟩; have hb11 := since_trans hb10 hc11)
          refine hK.out _ _ (HC.out _ (by assumption)) (fun hHeld11 => ?_)
          clear hK K hHeld10
          try simp only [Act.put, List.setIfInBounds_toArray, List.set_cons_zero, List.set_cons_succ]
          refine wpAnyH_ready (rs := [72]) (by kernel_rfl) (by simp) ?_
          refine cons_list rfl (fun K hK => ?_) AllReadyH.nil
          go_simp
          (go_at_call 18; refine (C12.out _ hb11).mono ?_; rintro e wq12 ⟨Aq12, cq12, rfl, ho12, hc12⟩; have hb12 := since_trans hb11 hc12)
          refine hK.out _ _ (HC.out _ (by assumption)) (fun hHeld12 => ?_)
          clear hK K hHeld11
          try simp only [Act.put, List.setIfInBounds_toArray, List.set_cons_zero, List.set_cons_succ]
          refine wpAnyH_ready (rs := [73]) (by kernel_rfl) (by simp) ?_
          refine cons_list rfl (fun K hK => ?_) AllReadyH.nil
          go_simp
          (go_at_call 8; refine (CI.out qc _ _ _ _ _ hlc (ho11.call hc12).rd ho12.rd).mono ?_; rintro e wq13 ⟨rfl, hc13⟩; have hb13 := since_trans hb12 hc13)
          refine hK.out _ _ (HC.out _ (by assumption)) (fun hHeld13 => ?_)
          clear hK K hHeld12
          try simp only [Act.put, List.setIfInBounds_toArray, List.set_cons_zero, List.set_cons_succ]
          refine take_list (i := 74) (v := ?_) rfl (by kernel_rfl) (by kernel_rfl) (by kernel_rfl) (fun _ _ _ h => h) (Or.inl ⟨by rfl, ?_⟩) (by assumption) ?_
          rotate_left
          · (intro w hSw; (try dsimp only at hSw); go_simp; try (with_reducible rfl))
          try simp only [Act.put, List.setIfInBounds_toArray, List.set_cons_zero, List.set_cons_succ]
          refine take_list (i := 75) (v := ?_) rfl (by kernel_rfl) (by kernel_rfl) (by kernel_rfl) (fun _ _ _ h => h) (Or.inl ⟨by rfl, ?_⟩) (by assumption) ?_
          rotate_left
          · (intro w hSw; (try dsimp only at hSw); go_simp; try (with_reducible rfl))
          try simp only [Act.put, List.setIfInBounds_toArray, List.set_cons_zero, List.set_cons_succ]
          refine wpAnyH_done (by kernel_rfl) ?_ _
          clear hHeld13
          have G9 := Lib.hid (GX.out.call hb13)
          have R9 := Lib.hid ((hb13.block _ (lt_heap RX.out)).trans RX.out)
          go_wp2_with fail
          go_roundw
          case rel => exact ⟨j + 1, by omega, by go_num, G9.out, R9.out⟩
          case measure => simp [intOf]; omega
end Go.Proofs.Ytidmpfenkgihjaa

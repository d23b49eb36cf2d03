/- The walk of backstaylaw10.StableAny. -/
import Derived.Test.YtablbagdnmbbfaaGreatLaw10
namespace Go.Proofs.YtablbagdnmbbfaaGreat
set_option linter.unusedSimpArgs false
set_option linter.unusedVariables false
open Go.RowKit

set_option maxRecDepth 100000 in
set_option maxHeartbeats 8000000 in
theorem stableAny_walk (a0 a1 : Option Addr) (c0 c1 : Nat) (l0 : List Int) (l1 : List (List Int)) (V1 : List (Option Addr × Nat)) (n2 : Int) (w : World) (h0 : InRow w a0 c0 l0) (h1 : RowsIn w a1 c1 l1 V1) (k2 : In64 n2) :
    Calls Tryz.prog 4 #[.slice a0 l0.length c0, .slice a1 l1.length c1, .int .i64 n2] w fun e w' => e = .returned (.bool true) ∧ Below w.heap.size w w' := by
  have I2 := Lib.hid k2
  have H1 := Lib.hid h1
  clear k2 h1
  have H0 := Lib.hid h0
  clear h0
  go_enter Tryz.func4, Tryz.ntmps4
  go_wp2_with fail
  refine (awake10 _).mono ?_
  rintro e w1 ⟨rfl, hb1⟩
  have J0 := Lib.hid (H0.out.call hb1)
  have B1 := Lib.hid hb1
  clear hb1
  go_wp2_with fail
  refine (net_any _ _ l0 c0 J0.out.len J0.out.le J0.out.rd J0.out.in64).mono ?_
  rintro e w2 ⟨p, h, rfl, hok, hown, hb⟩
  have B2 := Lib.hid (since_trans B1.out hb)
  have OK := Lib.hid hok
  have GD := Lib.hid hok.good
  have NG := Lib.hid hok.good.netG
  have P0 : Hid (NW w (w2.alloc (.cells #[.int .i64 p.proto, .int .i64 p.cap, .int .i64 p.k, .slice h.an p.nodes.length h.cn, .slice h.al p.links.length h.cl, .slice h.ad p.dests.length h.cd, .slice h.ac p.checks.length h.cc] 30)) w2.heap.size p h []) := Lib.hid ⟨PB.begin B2.out hown.net, by intro z hz; cases hz⟩
  have hn2 := hok.n.1
  have hn7 := hok.n.2
  have hl9 := hok.l9
  clear hb hown hok J0
  unfold netV netVal
  go_upto_region 3 with fail
  generalize (w2.alloc (.cells #[.int .i64 p.proto, .int .i64 p.cap, .int .i64 p.k, .slice h.an p.nodes.length h.cn, .slice h.al p.links.length h.cl, .slice h.ad p.dests.length h.cd, .slice h.ac p.checks.length h.cc] 30)) = w3 at *
  generalize w2.heap.size = bp at *
  clear B1 B2
  obtain ⟨g0, g1, g2, g3, g4, g5, g6⟩ := P0.out.pb.all
  have HD0 := Lib.hid (dest0 (p := p) (by have := OK.out.d12.1; omega))
  go_wp2_with fail
  refine (pick10_any n2 512 _ I2.out (by omega) (by omega)).mono ?_
  rintro e w' ⟨rfl, rfl⟩
  generalize pickV n2 512 = x at *
  have J1 := Lib.hid (H1.out.call P0.out.pb.below)
  go_wp2_with fail
  refine (held9_any p h l1 V1 a1 c1 _ P0.out.net GD.out J1.out).mono ?_
  rintro e w4 ⟨Z, A, c, rfl, hZ, hL⟩
  have P4 := Lib.hid (P0.out.call hL.below)
  have HZ := Lib.hid hZ
  have LZ := Lib.hid hL
  have HF0 := Lib.hid (held_fits NG.out l1)
  generalize heldS p l1 = s0 at *
  clear hZ hL g0 g1 g2 g3 g4 g5 g6 J1
  obtain ⟨g0, g1, g2, g3, g4, g5, g6⟩ := P4.out.pb.all
  go_wp2_with fail
  clear g0 g1 g2 g3 g4 g5 g6
  obtain ⟨R, hR, hS⟩ := stop_ex (p := p) (f := x) (d := 0) NG.out
  have HS := Lib.hid hS
  clear hS
  go_loopw [10, 11] (fun sl si wx => ∃ (k : Nat) (L : List RtZ) (A : Option Addr) (c : Nat), k ≤ 17 ∧ si = .int .i64 k ∧ sl = .slice A L.length c ∧ L.map (·.1) = stL p (iterF p x 0 s0 k) ∧ LW w wx L A c ∧ Below w4.heap.size w4 wx) (fun _ si _ => 17 - (intOf si).toNat)
  case atStart => exact ⟨0, Z, A, c, Nat.zero_le _, rfl, rfl, HZ.out, LZ.out.since P0.out.pb.below, Below.refl _ _⟩
  case round =>
    obtain ⟨k, L, A', c', hk, rfl, rfl, hL, hW, hB⟩ := hrel
    have P5 := Lib.hid (P4.out.call hB)
    have HL := Lib.hid hL
    have WX := Lib.hid hW
    have BX := Lib.hid hB
    have HFk := Lib.hid (iter_fits (f := x) (d := 0) NG.out HF0.out k)
    have hLn := len_of hL
    have hL12 : L.length ≤ 12 := by omega
    have HLn := Lib.hid hLn
    clear hL hW hB hLn
    obtain ⟨g0, g1, g2, g3, g4, g5, g6⟩ := P5.out.pb.all
    by_cases hlt : (k : Int) < 17
    · go_wp2_with fail
      refine (stepR_any p h x 0 (iterF p x 0 s0 k) L A' c' _ P5.out.net GD.out HD0.out WX.out.rts HL.out HFk.out).mono ?_
      rintro e w5 ⟨Y, A5, c5, rfl, hY, hW5⟩
      have HY := Lib.hid (show Y.map (·.1) = stL p (iterF p x 0 s0 (k + 1)) from hY)
      have W5 := Lib.hid (hW5.since WX.out.below)
      have B5 := Lib.hid (since_trans BX.out hW5.below)
      clear hY hW5 g0 g1 g2 g3 g4 g5 g6
      go_wp2
      go_roundw
      case rel => exact ⟨k + 1, Y, A5, c5, by omega, by go_num, rfl, HY.out, W5.out, B5.out⟩
      case measure => simp [intOf]; omega
    · obtain rfl : k = 17 := by omega
      have hie : stL p (iterF p x 0 s0 17) = stL p (endF p x 0) := by rw [iter_end NG.out HF0.out (by omega)]
      have HI := Lib.hid (HL.out.trans hie)
      clear hie hlt
      go_wp2_with fail
      refine (solve_any p h x 0 99 R _ P5.out.net GD.out HD0.out HS.out hR).mono ?_
      rintro e w6 hpost
      obtain ⟨Y, A6, c6, rfl, hY, hW6⟩ := solve_ok hpost (by omega)
      have HY := Lib.hid (hY.trans (HS.out.end_ NG.out GD.out.lksOk))
      have P6 := Lib.hid (P5.out.call hW6.below)
      have W6 := Lib.hid (WX.out.call hW6.below)
      have Y6 := Lib.hid hW6.rts
      have hY12 : Y.length ≤ 12 := by have := len_of hY; omega
      have hq : ((L.length : Int) == (p.nodes.length : Int)) = true := by have := HLn.out; simp [this]
      clear hpost hY hW6 g0 g1 g2 g3 g4 g5 g6
      obtain ⟨g0, g1, g2, g3, g4, g5, g6⟩ := P6.out.pb.all
      go_wp2_with fail
      refine (sameR_any L Y A' A6 c' c6 _ W6.out.rts Y6.out (by omega) (by omega)).mono ?_
      rintro e w7 ⟨rfl, hb7⟩
      rw [HI.out, HY.out, show decide (stL p (endF p x 0) = stL p (endF p x 0)) = true from decide_eq_true rfl]
      have P7 := Lib.hid (P6.out.call hb7)
      have W7 := Lib.hid (W6.out.call hb7)
      clear hb7 g0 g1 g2 g3 g4 g5 g6
      obtain ⟨g0, g1, g2, g3, g4, g5, g6⟩ := P7.out.pb.all
      go_wp2_with fail
      refine (isX_any p h x 0 (endF p x 0) L A' c' _ P7.out.net GD.out HD0.out W7.out.rts HI.out (end_fits NG.out)).mono ?_
      rintro e w8 ⟨rfl, hb8⟩
      rw [end_step NG.out, show decide (stL p (endF p x 0) = stL p (endF p x 0)) = true from decide_eq_true rfl]
      have P8 := Lib.hid (P7.out.call hb8)
      clear hb8 g0 g1 g2 g3 g4 g5 g6
      go_wp2
      go_ret
      exact ⟨rfl, P8.out.pb.below⟩
end Go.Proofs.YtablbagdnmbbfaaGreat

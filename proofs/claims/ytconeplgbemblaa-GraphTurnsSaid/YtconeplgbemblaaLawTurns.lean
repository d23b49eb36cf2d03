/- The walk of backstaylaw05.GraphTurns. -/
import Derived.Test.YtconeplgbemblaaLaw5
namespace Go.Proofs.Ytconeplgbemblaa
set_option linter.unusedSimpArgs false
set_option linter.unusedVariables false
open Go.RowKit

set_option maxRecDepth 100000 in
set_option maxHeartbeats 8000000 in
theorem graphTurns_walk (a0 : Option Addr) (c0 : Nat) (l0 : List Int) (n1 n2 n3 n4 : Int) (w : World) (h0 : InRow w a0 c0 l0) (k1 : In64 n1) (k2 : In64 n2) (k3 : In64 n3) (k4 : In64 n4) :
    Calls Try.prog 4 #[.slice a0 l0.length c0, .int .i64 n1, .int .i64 n2, .int .i64 n3, .int .i64 n4] w fun e w' => e = .returned (.bool true) ∧ Below w.heap.size w w' := by
  have I1 := Lib.hid k1
  have I2 := Lib.hid k2
  have I3 := Lib.hid k3
  have I4 := Lib.hid k4
  clear k1 k2 k3 k4
  have H0 := Lib.hid h0
  clear h0
  go_enter Try.func4, Try.ntmps4
  go_wp2_with fail
  refine (awake5 _).mono ?_
  rintro e w1 ⟨rfl, hb1⟩
  have J0 := Lib.hid (H0.out.call hb1)
  have B1 := Lib.hid hb1
  clear hb1
  go_wp2_with fail
  refine (net_any _ _ l0 c0 J0.out.len J0.out.le J0.out.rd J0.out.in64).mono ?_
  rintro e w2 ⟨p, h, rfl, hok, hown, hb⟩
  have B2 := Lib.hid (since_trans B1.out hb)
  have OK := Lib.hid hok
  have GD := Lib.hid hok.good
  have P0 : Hid (PB w (w2.alloc (.cells #[.int .i64 p.proto, .int .i64 p.cap, .int .i64 p.k, .slice h.an p.nodes.length h.cn, .slice h.al p.links.length h.cl, .slice h.ad p.dests.length h.cd, .slice h.ac p.checks.length h.cc] 29)) w2.heap.size p h) := Lib.hid (PB.begin B2.out hown.net)
  have hn2 := hok.n.1
  have hn7 := hok.n.2
  clear hb hown hok
  unfold netV netVal
  obtain ⟨g0, g1, g2, g3, g4, g5, g6⟩ := P0.out.all
  go_wp2_with fail
  refine (pick5_any n1 512 _ I1.out (by omega) (by omega)).mono ?_
  rintro e w' ⟨rfl, rfl⟩
  generalize pickV n1 512 = x
  go_wp2_with fail
  refine (pick5_any n2 p.nodes.length _ I2.out (by omega) (by omega)).mono ?_
  rintro e w' ⟨rfl, rfl⟩
  have ha := pickV_in (c := n2) (n := p.nodes.length) (by omega)
  generalize pickV n2 p.nodes.length = a at *
  go_wp2_with fail
  refine (pick5_any n3 p.nodes.length _ I3.out (by omega) (by omega)).mono ?_
  rintro e w' ⟨rfl, rfl⟩
  have hb := pickV_in (c := n3) (n := p.nodes.length) (by omega)
  generalize pickV n3 p.nodes.length = b at *
  go_wp2_with fail
  refine (pick5_any n4 p.nodes.length _ I4.out (by omega) (by omega)).mono ?_
  rintro e w' ⟨rfl, rfl⟩
  have hc := pickV_in (c := n4) (n := p.nodes.length) (by omega)
  generalize pickV n4 p.nodes.length = c at *
  have HA := Lib.hid ha
  have HB := Lib.hid hb
  have HC := Lib.hid hc
  clear ha hb hc
  go_wp2_with fail
  refine (hops_in P0.out.net GD.out HA.out HB.out).mono ?_
  rintro e w3 ⟨d1, rfl, hd, hb1⟩
  have P1 := Lib.hid (P0.out.call hb1)
  have D1 := Lib.hid hd
  clear hb1 hd g0 g1 g2 g3 g4 g5 g6
  obtain ⟨g0, g1, g2, g3, g4, g5, g6⟩ := P1.out.all
  go_wp2_with fail
  refine (hops_in P1.out.net GD.out HB.out HC.out).mono ?_
  rintro e w4 ⟨d2, rfl, hd, hb1⟩
  have P2 := Lib.hid (P1.out.call hb1)
  have D2 := Lib.hid hd
  clear hb1 hd g0 g1 g2 g3 g4 g5 g6
  obtain ⟨g0, g1, g2, g3, g4, g5, g6⟩ := P2.out.all
  go_wp2_with fail
  refine (hops_in P2.out.net GD.out HA.out HC.out).mono ?_
  rintro e w5 ⟨d3, rfl, hd, hb1⟩
  have P3 := Lib.hid (P2.out.call hb1)
  have D3 := Lib.hid hd
  clear hb1 hd g0 g1 g2 g3 g4 g5 g6
  obtain ⟨g0, g1, g2, g3, g4, g5, g6⟩ := P3.out.all
  go_wp2_with fail
  refine (hops_in P3.out.net GD.out HB.out HA.out).mono ?_
  rintro e w6 ⟨d4, rfl, hd, hb1⟩
  have P4 := Lib.hid (P3.out.call hb1)
  have e4 : d4 = d1 := hd.1.uniq (D1.out.1.symm (fun u v h => Adj.symm u v h))
  subst e4
  have e0 : (d4 == 0) = (a == b) := by
    have := D1.out.1.zero
    have ha := HA.out
    have hb := HB.out
    exact eq_bools (by rw [this]; omega)
  have hlt : d4 < p.nodes.length := D1.out.2.2
  clear hb1 hd g0 g1 g2 g3 g4 g5 g6
  have ht := D1.out.1.tri D2.out.1 D3.out.1
  have hl1 := D1.out.2
  have hl2 := D2.out.2
  have hl3 := D3.out.2
  by_cases h1 : d4 < 0
  · go_wp2
    go_ret
    exact ⟨rfl, P4.out.below⟩
  by_cases h2 : d2 < 0
  · have h1' : 0 ≤ d4 := by omega
    clear h1
    go_wp2
    go_ret
    exact ⟨rfl, P4.out.below⟩
  have h1' : 0 ≤ d4 := by omega
  have h2' : 0 ≤ d2 := by omega
  have h3 : 0 ≤ d3 := by omega
  have h4 : d3 ≤ d4 + d2 := by omega
  clear h1 h2 ht
  go_wp2
  go_ret
  exact ⟨rfl, P4.out.below⟩
end Go.Proofs.Ytconeplgbemblaa

/- The walk of backstaylaw07.CarryOther. -/
import Derived.Test.YtiehlnokidhgfaaAwake7
import Derived.Test.YtiehlnokidhgfaaLaw7
import Derived.Test.YtiehlnokidhgfaaNetB
import Derived.Test.YtiehlnokidhgfaaOpenRt
namespace Go.Proofs.Ytiehlnokidhgfaa
set_option linter.unusedSimpArgs false
set_option linter.unusedVariables false
open Go.RowKit

theorem fits_none (p : Net) (i : Int) : holdsB p i ⟨0, 0, []⟩ = true := holds_iff.2 (holds_none p _)
set_option maxRecDepth 100000 in
set_option maxHeartbeats 8000000 in
theorem carryOther_walk (a0 : Option Addr) (c0 : Nat) (l0 : List Int) (n1 n2 : Int) (r3 : Rt) (A3 : Option Addr) (C3 : Nat) (w : World) (h0 : InRow w a0 c0 l0) (h3 : InRow w A3 C3 r3.path) (k1 : In64 n1) (k2 : In64 n2) :
    Calls Try.prog 3 #[.slice a0 l0.length c0, .int .i64 n1, .int .i64 n2, .agg #[.int .i64 r3.kind, .int .i64 r3.cost, .slice A3 r3.path.length C3]] w fun e w' => e = .returned (.bool true) ∧ Below w.heap.size w w' := by
  have I1 := Lib.hid k1
  have I2 := Lib.hid k2
  have kf := run_rt_kind
  have hr3 : RtR w w.heap.size r3 A3 C3 := ⟨h3.rd, h3.le, h3.max⟩
  have X0 := Lib.hid (Box.new hr3)
  have BA : Hid (Below w.heap.size w (w.alloc (.cells #[.int .i64 r3.kind, .int .i64 r3.cost, .slice A3 r3.path.length C3] 24))) := Lib.hid ((Below.refl _ _).alloc (Nat.le_refl _) _)
  have H0 := Lib.hid (h0.call BA.out)
  clear h0 k1 k2 h3 hr3
  go_enter Try.func3, Try.ntmps3
  go_upto_region 1 with fail
  generalize (w.alloc (.cells #[.int .i64 r3.kind, .int .i64 r3.cost, .slice A3 r3.path.length C3] 24)) = wa at *
  have HBX : Hid (w.heap.size = w.heap.size) := Lib.hid rfl
  go_wp2_with fail
  refine (awake7 _).mono ?_
  rintro e w1 ⟨rfl, hb1⟩
  have J0 := Lib.hid (H0.out.call hb1)
  have B1 := Lib.hid (since_trans BA.out hb1)
  have X1 := Lib.hid (X0.out.call hb1)
  clear hb1
  go_wp2_with fail
  refine (net_any _ _ l0 c0 J0.out.len J0.out.le J0.out.rd J0.out.in64).mono ?_
  rintro e w2 ⟨p, h, rfl, hok, hown, hb⟩
  have B2 := Lib.hid (since_trans B1.out hb)
  have OK := Lib.hid hok
  have GD := Lib.hid hok.good
  have NG := Lib.hid hok.good.netG
  have P0 : Hid (NW w (w2.alloc (.cells #[.int .i64 p.proto, .int .i64 p.cap, .int .i64 p.k, .slice h.an p.nodes.length h.cn, .slice h.al p.links.length h.cl, .slice h.ad p.dests.length h.cd, .slice h.ac p.checks.length h.cc] 31)) w2.heap.size p h [(w.heap.size, (r3, (A3, C3)))]) := Lib.hid ⟨PB.begin B2.out hown.net, by intro z hz; simp at hz; subst hz; exact (X1.out.call hb).alloc _⟩
  have hn2 := hok.n.1
  have hn7 := hok.n.2
  have hl9 := hok.l9
  clear hb hown hok J0 X0 X1 H0
  unfold netV netVal
  go_upto_region 3 with fail
  generalize (w2.alloc (.cells #[.int .i64 p.proto, .int .i64 p.cap, .int .i64 p.k, .slice h.an p.nodes.length h.cn, .slice h.al p.links.length h.cl, .slice h.ad p.dests.length h.cd, .slice h.ac p.checks.length h.cc] 31)) = w3 at *
  generalize w2.heap.size = bp at *
  clear B1 B2 BA HBX
  obtain ⟨g0, g1, g2, g3, g4, g5, g6⟩ := P0.out.pb.all
  by_cases hL : p.links.length = 0
  · have hq : ((p.links.length : Int) == 0) = true := by simp [hL]
    clear hL
    go_wp2
    go_ret
    exact ⟨rfl, P0.out.pb.below⟩
  have hq : ((p.links.length : Int) == 0) = false := by simp [hL]
  have hLp : 0 < (p.links.length : Int) := by omega
  clear hL
  go_wp2_with fail
  refine (pick7_any n1 p.links.length _ I1.out hLp (by omega)).mono ?_
  rintro e w' ⟨rfl, rfl⟩
  have hi := pickV_in (c := n1) (n := p.links.length) hLp
  generalize pickV n1 p.links.length = i at *
  obtain ⟨i, rfl⟩ : ∃ k : Nat, i = k := ⟨i.toNat, by omega⟩
  obtain ⟨hi0, hi1⟩ := hi
  go_wp2_with fail
  refine (pick7_any n2 p.nodes.length _ I2.out (by omega) (by omega)).mono ?_
  rintro e w' ⟨rfl, rfl⟩
  have hnI := pickV_in (c := n2) (n := p.nodes.length) (by omega)
  generalize pickV n2 p.nodes.length = n at *
  obtain ⟨n, rfl⟩ : ∃ k : Nat, n = k := ⟨n.toNat, by omega⟩
  obtain ⟨hn0, hn1⟩ := hnI
  obtain ⟨x, hx⟩ := NG.out.link (k := i) (by omega)
  obtain ⟨xa', xb', xc'⟩ := x
  have hxa := hx.a
  have hxab := hx.ab
  have hxb := hx.b
  dsimp only at hxa hxab hxb
  obtain ⟨na, rfl⟩ : ∃ k : Nat, xa' = k := ⟨xa'.toNat, by omega⟩
  obtain ⟨nb, rfl⟩ : ∃ k : Nat, xb' = k := ⟨xb'.toNat, by omega⟩
  have hnaN : na < p.nodes.length := by omega
  have hnbN : nb < p.nodes.length := by omega
  obtain ⟨bl, ol, el, hbl, x0, x1, x2⟩ := P0.out.net.links.link hx.at_
  dsimp only at x0 x1 x2
  have HOB := Lib.hid (show othL p.links i (nb : Int) = (na : Int) from hx.othB)
  have HON : Hid (n ≠ na → n ≠ nb → othL p.links i (n : Int) = -1) := Lib.hid (fun h1 h2 => by
    rw [hx.oth]; unfold othV
    rw [if_neg (by simp; omega), if_neg (by simp; omega)])
  have HOL : Hid (othL p.links (p.links.length : Int) (nb : Int) = -1) := Lib.hid (by unfold othL; rw [if_pos (by omega), List.getElem?_eq_none (by omega)])
  rw [el] at g4
  clear hLp hl9 hn2 hn7 hxa hxab hxb hx
  go_upto_region 9 with fail
  clear g0 g1 g2 g3 g4 g5 g6 x0 x1 x2 el hi0 hi1 hq
  obtain ⟨g0, g1, g2, g3, g4, g5, g6⟩ := P0.out.pb.all
  have XR := Lib.hid (P0.out.each (w.heap.size, (r3, (A3, C3))) (by simp))
  obtain ⟨r0, r1, r2⟩ := XR.out.at_
  go_wp2_with fail
  refine (overX_any p h i nb r3 A3 C3 _ P0.out.net GD.out XR.out.rt).mono ?_
  rintro e w4 ⟨A4, c4, rfl, hr4, hb⟩
  have HOV := Lib.hid (fun (e : holdsB p (na : Int) r3 = false) => over_none (p := p) (k := (i : Int)) (n := (nb : Int)) (r := r3) (.inr (.inr (by rw [HOB.out, ← holds_iff, e]; simp))))
  generalize overR p i nb r3 = o at *
  have P4 := Lib.hid ((P0.out.call hb).push hr4)
  clear g0 g1 g2 g3 g4 g5 g6 r0 r1 r2 hb hr4 XR P0
  unfold rtV
  go_upto_region 10 with fail
  generalize (w4.alloc (.cells #[.int .i64 o.kind, .int .i64 o.cost, .slice A4 o.path.length c4] 24)) = v4 at *
  generalize w4.heap.size = b4 at *
  generalize hLL : ([(b4, (o, (A4, c4))), (w.heap.size, (r3, (A3, C3)))] : List (Nat × RtZ)) = LL at *
  have HM : Hid (∀ wy, NW w wy bp p h LL → Box wy w.heap.size r3 A3 C3 ∧ Box wy b4 o A4 c4) := Lib.hid (fun wy a => by subst hLL; exact ⟨a.each (w.heap.size, (r3, (A3, C3))) (by simp), a.each (b4, (o, (A4, c4))) (by simp)⟩)
  clear hLL
  go_cut [60] (fun s wx => s = .bool false ∧ NW w wx bp p h LL)
  case first =>
    obtain ⟨g0, g1, g2, g3, g4, g5, g6⟩ := P4.out.pb.all
    obtain ⟨r0, r1, r2⟩ := (HM.out _ P4.out).1.at_
    go_wp2_with fail
    refine (fits_any p h na r3 A3 C3 _ P4.out.net GD.out (HM.out _ P4.out).1.rt).mono ?_
    rintro e w5 ⟨rfl, hb⟩
    have P5 := Lib.hid (P4.out.call hb)
    clear g0 g1 g2 g3 g4 g5 g6 r0 r1 r2 hb
    obtain ⟨o0, o1, o2⟩ := (HM.out _ P5.out).2.at_
    have hpl : placeB (na : Int) p.nodes.length = true := by unfold placeB; simp; omega
    rw [hpl, Bool.true_and]
    cases hf : holdsB p na r3 with
    | true =>
      clear hpl hf
      go_wp2_with fail
      go_meet
      case rel => exact ⟨rfl, P5.out⟩
    | false =>
      have ho := HOV.out hf
      have hq1 : (o.kind != 0) = false := by rw [ho]; rfl
      clear hpl hf ho
      go_wp2_with fail
      go_meet
      case rel => exact ⟨rfl, P5.out⟩
  case rest =>
  obtain ⟨rfl, hP5⟩ := hcut
  have P5 := Lib.hid hP5
  clear hP5 P4
  go_upto_region 12 with fail
  go_cut [77] (fun s wx => s = .bool false ∧ NW w wx bp p h LL)
  case first =>
    obtain ⟨g0, g1, g2, g3, g4, g5, g6⟩ := P5.out.pb.all
    obtain ⟨r0, r1, r2⟩ := (HM.out _ P5.out).1.at_
    by_cases hna : n = na
    · have hq1 : ((n : Int) != (na : Int)) = false := by simp [hna]
      clear hna
      go_wp2_with fail
      go_meet
      case rel => exact ⟨rfl, P5.out⟩
    · have hq1 : ((n : Int) != (na : Int)) = true := by simp; omega
      by_cases hnb : n = nb
      · have hq2 : ((n : Int) != (nb : Int)) = false := by simp [hnb]
        clear hna hnb
        go_wp2_with fail
        go_meet
        case rel => exact ⟨rfl, P5.out⟩
      · have hq2 : ((n : Int) != (nb : Int)) = true := by simp; omega
        have HZ := Lib.hid (over_none (p := p) (k := (i : Int)) (n := (n : Int)) (r := r3) (.inl (by rw [HON.out hna hnb]; omega)))
        clear hna hnb
        go_wp2_with fail
        refine (overX_any p h i n r3 A3 C3 _ P5.out.net GD.out (HM.out _ P5.out).1.rt).mono ?_
        rintro e w6 ⟨A6, c6, rfl, -, hb⟩
        rw [HZ.out]
        have P6 := Lib.hid (P5.out.call hb)
        unfold rtV rtNone
        clear g0 g1 g2 g3 g4 g5 g6 r0 r1 r2 hb
        go_wp2_with fail
        go_meet
        case rel => exact ⟨rfl, P6.out⟩
  case rest =>
  obtain ⟨rfl, hP6⟩ := hcut
  have P6 := Lib.hid hP6
  clear hP6 P5
  go_upto_region 14 with fail
  obtain ⟨g0, g1, g2, g3, g4, g5, g6⟩ := P6.out.pb.all
  go_wp2_with fail
  refine (fits_any p h n ⟨0, 0, []⟩ none 0 _ P6.out.net GD.out rtR_nil).mono ?_
  rintro e w7 ⟨rfl, hb⟩
  have hp1 : (placeB (n : Int) p.nodes.length && holdsB p n ⟨0, 0, []⟩) = true := by rw [fits_none]; unfold placeB; simpa using hn1
  rw [hp1]
  have P7 := Lib.hid (P6.out.call hb)
  clear g0 g1 g2 g3 g4 g5 g6 hb hp1
  obtain ⟨g0, g1, g2, g3, g4, g5, g6⟩ := P7.out.pb.all
  go_wp2_with fail
  refine (fits_any p h (p.nodes.length : Int) ⟨0, 0, []⟩ none 0 _ P7.out.net GD.out rtR_nil).mono ?_
  rintro e w8 ⟨rfl, hb⟩
  have hp1 : (placeB (p.nodes.length : Int) p.nodes.length && holdsB p p.nodes.length ⟨0, 0, []⟩) = false := by unfold placeB; simp
  rw [hp1]
  have P8 := Lib.hid (P7.out.call hb)
  clear g0 g1 g2 g3 g4 g5 g6 hb hp1
  obtain ⟨g0, g1, g2, g3, g4, g5, g6⟩ := P8.out.pb.all
  obtain ⟨r0, r1, r2⟩ := (HM.out _ P8.out).1.at_
  go_wp2_with fail
  refine (overX_any p h (p.links.length : Int) nb r3 A3 C3 _ P8.out.net GD.out (HM.out _ P8.out).1.rt).mono ?_
  rintro e w9 ⟨A9, c9, rfl, -, hb⟩
  have hz : overR p p.links.length nb r3 = rtNone := over_none (.inl (by rw [HOL.out]; omega))
  rw [hz]
  have P9 := Lib.hid (P8.out.call hb)
  unfold rtV rtNone
  clear g0 g1 g2 g3 g4 g5 g6 r0 r1 r2 hb hz
  go_wp2
  go_ret
  exact ⟨rfl, P9.out.pb.below⟩
end Go.Proofs.Ytiehlnokidhgfaa

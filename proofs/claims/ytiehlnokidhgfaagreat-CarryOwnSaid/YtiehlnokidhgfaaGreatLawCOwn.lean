/- The walk of backstaylaw07.CarryOwn. -/
import Derived.Test.YtiehlnokidhgfaaGreatAwake7
import Derived.Test.YtiehlnokidhgfaaGreatLaw7
import Derived.Test.YtiehlnokidhgfaaGreatNetB
namespace Go.Proofs.YtiehlnokidhgfaaGreat
set_option linter.unusedSimpArgs false
set_option linter.unusedVariables false
open Go.RowKit

theorem own_best {p : Net} (g : NetG p) {a : Int} {r : Rt} (h : Holds p a r) : betterB r (rtOwn p) = false := by
  cases hb : betterB r (rtOwn p) with
  | false => rfl
  | true =>
    by_cases hk : r.kind = 0
    · rw [(lt_none hk h.1 _ (holds_own g 0).1).1] at hb; cases hb
    · rcases h.some hk with ⟨hp, a1, a2, _⟩ | ⟨hp, a1, a2, a3, a4⟩
      · have e : rtOwn p = ⟨2, 0, []⟩ := by unfold rtOwn; rw [if_pos hp]
        rw [e, lt_path a1 rfl a2 rfl] at hb
        rcases hb with hb | ⟨hb, hl⟩
        · simp at hb
        · have : r.path = [] := List.eq_nil_of_length_eq_zero (by simpa using hb)
          rw [this] at hl; simp [lexI] at hl
      · have e : rtOwn p = ⟨1, 0, []⟩ := by unfold rtOwn; rw [if_neg hp]
        rw [e, lt_vec a1 rfl a4 rfl] at hb
        simp at hb; omega
theorem own_len0 (p : Net) : rtLen (rtOwn p) = 0 := by unfold rtOwn; split <;> simp [rtLen]
set_option maxRecDepth 100000 in
set_option maxHeartbeats 8000000 in
theorem carryOwn_walk (a0 a3 : Option Addr) (c0 c3 : Nat) (l0 l3 : List Int) (n1 n2 : Int) (w : World) (h0 : InRow w a0 c0 l0) (h3 : InRow w a3 c3 l3) (k1 : In64 n1) (k2 : In64 n2) :
    Calls Tryz.prog 8 #[.slice a0 l0.length c0, .int .i64 n1, .int .i64 n2, .slice a3 l3.length c3] w fun e w' => e = .returned (.bool true) ∧ Below w.heap.size w w' := by
  have I1 := Lib.hid k1
  have I2 := Lib.hid k2
  have H3 := Lib.hid h3
  clear k1 k2 h3
  have H0 := Lib.hid h0
  clear h0
  go_enter Tryz.func8, Tryz.ntmps8
  go_wp2_with fail
  refine (awake7 _).mono ?_
  rintro e w1 ⟨rfl, hb1⟩
  have J0 := Lib.hid (H0.out.call hb1)
  have B1 := Lib.hid hb1
  clear hb1
  go_wp2_with fail
  refine (net_any _ _ l0 c0 J0.out.len J0.out.le J0.out.rd J0.out.in64).mono ?_
  rintro e w2 ⟨p, h, rfl, hok, hown, hb⟩
  have B2 := Lib.hid (since_trans B1.out hb)
  have OK := Lib.hid hok
  have GD := Lib.hid hok.good
  have NG := Lib.hid hok.good.netG
  have P0 : Hid (NW w (w2.alloc (.cells #[.int .i64 p.proto, .int .i64 p.cap, .int .i64 p.k, .slice h.an p.nodes.length h.cn, .slice h.al p.links.length h.cl, .slice h.ad p.dests.length h.cd, .slice h.ac p.checks.length h.cc] 31)) w2.heap.size p h []) := Lib.hid ⟨PB.begin B2.out hown.net, by intro z hz; cases hz⟩
  have hn2 := hok.n.1
  have hn7 := hok.n.2
  have hl9 := hok.l9
  clear hb hown hok J0
  unfold netV netVal
  go_upto_region 3 with fail
  generalize (w2.alloc (.cells #[.int .i64 p.proto, .int .i64 p.cap, .int .i64 p.k, .slice h.an p.nodes.length h.cn, .slice h.al p.links.length h.cl, .slice h.ad p.dests.length h.cd, .slice h.ac p.checks.length h.cc] 31)) = w3 at *
  generalize w2.heap.size = bp at *
  clear B1 B2
  obtain ⟨g0, g1, g2, g3, g4, g5, g6⟩ := P0.out.pb.all
  have hd := OK.out.d12
  go_wp2_with fail
  refine (pick7_any n1 p.dests.length _ I1.out (by omega) (by omega)).mono ?_
  rintro e w' ⟨rfl, rfl⟩
  have hdI := pickV_in (c := n1) (n := p.dests.length) (by omega)
  generalize pickV n1 p.dests.length = d at *
  obtain ⟨d, rfl⟩ : ∃ k : Nat, d = k := ⟨d.toNat, by omega⟩
  obtain ⟨hd0, hd1⟩ := hdI
  go_wp2_with fail
  refine (pick7_any n2 p.nodes.length _ I2.out (by omega) (by omega)).mono ?_
  rintro e w' ⟨rfl, rfl⟩
  have hnI := pickV_in (c := n2) (n := p.nodes.length) (by omega)
  generalize pickV n2 p.nodes.length = n at *
  obtain ⟨n, rfl⟩ : ∃ k : Nat, n = k := ⟨n.toNat, by omega⟩
  obtain ⟨hn0, hn1⟩ := hnI
  obtain ⟨z, bd, od, hz, ed, hbd, zc, zr⟩ := P0.out.net.dest1 (d := d) (by omega)
  have hor : orgOf p d = z.1.origins := by unfold orgOf; simp [hz]
  have hos := GD.out.small.origins _ (List.mem_of_getElem? hz)
  have HOR := Lib.hid hor
  have HPL : Hid (placeB (d : Int) p.dests.length = true) := Lib.hid (by unfold placeB; simpa using hd1)
  have ZR := Lib.hid zr
  rw [ed] at g5
  generalize z.1.origins = os at *
  clear hor hz zr ed hd hl9
  go_wp2_with fail
  go_loop [13, 14] (fun here si => ∃ (k : Nat) (hb : Bool), k ≤ os.length ∧ si = .int .i64 (k : Int) ∧ here = .bool hb ∧ hb = decide ((n : Int) ∈ os.take k)) (fun _ si => os.length - (intOf si).toNat)
  case atStart => exact ⟨0, false, Nat.zero_le _, rfl, rfl, by simp⟩
  case round =>
    obtain ⟨k, hb, hk, rfl, rfl, hbe⟩ := hrel
    have HB := Lib.hid hbe
    clear hbe
    by_cases hlt : k < os.length
    · obtain ⟨y, hy⟩ : ∃ y, os[k]? = some y := ⟨_, List.getElem?_eq_getElem hlt⟩
      obtain ⟨b3, o3, e3, _, hcy⟩ := ZR.out.one (i := k) (x := .int .i64 y) (by simp [ints, hy])
      have HT := Lib.hid (show decide ((n : Int) ∈ os.take (k + 1)) = (hb || decide (y = (n : Int))) from by
        rw [List.take_add_one, hy, HB.out, Bool.eq_iff_iff]
        simp
        constructor
        · rintro (h | h)
          · exact .inl h
          · exact .inr h.symm
        · rintro (h | h)
          · exact .inl h
          · exact .inr h.symm)
      rw [e3] at zc
      have hk0 : (0 : Int) ≤ (k : Int) := by omega
      have hk1 : (k : Int) < (os.length : Int) := by omega
      clear hy e3 hlt
      cases hb with
      | true =>
        go_wp2_with fail
        go_round
        case rel => exact ⟨k + 1, true, by omega, by go_num, rfl, by rw [HT.out]; rfl⟩
        case measure => simp [intOf]; omega
      | false =>
        go_wp2_with fail
        go_round
        case rel => exact ⟨k + 1, _, by omega, by go_num, rfl, by rw [HT.out]; rw [Bool.eq_iff_iff]; simp⟩
        case measure => simp [intOf]; omega
    · have hbl : hb = decide ((n : Int) ∈ os) := by
        have := HB.out
        rwa [List.take_of_length_le (by omega)] at this
      have hk1 : ¬ (k : Int) < (os.length : Int) := by omega
      have HBL := Lib.hid hbl
      have HG := Lib.hid P0.out.pb.all
      clear hbl hlt
      go_upto_region 10 with fail
      clear g0 g1 g2 g3 g4 g5 g6 zc
      obtain ⟨g0, g1, g2, g3, g4, g5, g6⟩ := HG.out
      go_wp2_with fail
      refine (ownX_any p h d n _ P0.out.net GD.out).mono ?_
      rintro e w4 ⟨rfl, hb4⟩
      have HOW := Lib.hid (show ownR p d n = if hb = true then rtOwn p else rtNone from by
        unfold ownR
        rw [HPL.out, HOR.out, HBL.out]
        simp)
      have HFO := Lib.hid (holds_ownR NG.out (d : Int) (n : Int) (asOf p n))
      generalize ownR p d n = o at *
      have P4 := Lib.hid ((P0.out.call hb4).push (r := o) (A := none) (c := 0) (show RtR _ _ o none 0 from by
        have : o.path = [] := by rw [HOW.out]; split; (unfold rtOwn; split <;> rfl); rfl
        obtain ⟨ok, oc, ol⟩ := o
        simp only at this
        subst this
        exact rtR_nil))
      clear g0 g1 g2 g3 g4 g5 g6 hb4
      unfold rtV
      go_upto_region 11 with fail
      generalize (w4.alloc (.cells #[.int .i64 o.kind, .int .i64 o.cost, .slice none o.path.length 0] 24)) = v4 at *
      generalize w4.heap.size = b4 at *
      obtain ⟨g0, g1, g2, g3, g4, g5, g6⟩ := P4.out.pb.all
      have J3 := Lib.hid (H3.out.call P4.out.pb.below)
      go_wp2_with fail
      refine (held_any p h n l3 a3 c3 _ P4.out.net NG.out (by omega) J3.out.rd J3.out.in64 J3.out.len).mono ?_
      rintro e w5 ⟨A5, c5, rfl, ho, hb5⟩
      have HR := Lib.hid (heldR_holds NG.out (n : Int) l3).1
      generalize heldR p n l3 = r at *
      have P5 := Lib.hid ((P4.out.call hb5).push (RtR.of_own ho))
      clear g0 g1 g2 g3 g4 g5 g6 ho hb5 J3 P4
      unfold rtV
      go_upto_region 12 with fail
      generalize (w5.alloc (.cells #[.int .i64 r.kind, .int .i64 r.cost, .slice A5 r.path.length c5] 24)) = v5 at *
      generalize w5.heap.size = b5 at *
      have XO := Lib.hid (P5.out.each (b4, (o, (none, 0))) (by simp))
      obtain ⟨o0, o1, o2⟩ := XO.out.at_
      cases hb with
      | false =>
        have hq : (o.kind == 0) = true := by rw [HOW.out]; rfl
        go_wp2
        go_ret
        exact ⟨rfl, P5.out.pb.below⟩
      | true =>
        have hoo : o = rtOwn p := by rw [HOW.out]; rfl
        have HFT := Lib.hid (show (placeB (n : Int) p.nodes.length && holdsB p n o) = true from by rw [holds_iff.2 HFO.out]; unfold placeB; simpa using hn1)
        have HLN := Lib.hid (show rtLen o = 0 from by rw [hoo]; exact own_len0 p)
        have HBN := Lib.hid (show betterB r o = false from by rw [hoo]; exact own_best NG.out HR.out)
        obtain ⟨g0, g1, g2, g3, g4, g5, g6⟩ := P5.out.pb.all
        clear hoo HOW
        go_wp2_with fail
        refine (fits_any p h n o none 0 _ P5.out.net GD.out XO.out.rt).mono ?_
        rintro e w6 ⟨rfl, hb6⟩
        rw [HFT.out]
        have P6 := Lib.hid (P5.out.call hb6)
        clear g0 g1 g2 g3 g4 g5 g6 o0 o1 o2 hb6 P5 XO
        have XO := Lib.hid (P6.out.each (b4, (o, (none, 0))) (by simp))
        obtain ⟨o0, o1, o2⟩ := XO.out.at_
        have XR := Lib.hid (P6.out.each (b5, (r, (A5, c5))) (by simp))
        obtain ⟨r0, r1, r2⟩ := XR.out.at_
        go_wp2_with fail
        refine (length_rt o none 0 _).mono ?_
        rintro e w7 ⟨rfl, hb7⟩
        rw [HLN.out]
        have P7 := Lib.hid (P6.out.call hb7)
        clear o0 o1 o2 r0 r1 r2 hb7 P6 XO XR
        have XO := Lib.hid (P7.out.each (b4, (o, (none, 0))) (by simp))
        obtain ⟨o0, o1, o2⟩ := XO.out.at_
        have XR := Lib.hid (P7.out.each (b5, (r, (A5, c5))) (by simp))
        obtain ⟨r0, r1, r2⟩ := XR.out.at_
        go_wp2_with fail
        refine (better_rt r o A5 none c5 0 _ XR.out.rt XO.out.rt).mono ?_
        rintro e w8 ⟨rfl, hb8⟩
        rw [HBN.out]
        have P8 := Lib.hid (P7.out.call hb8)
        clear o0 o1 o2 r0 r1 r2 hb8
        go_wp2
        go_ret
        exact ⟨rfl, P8.out.pb.below⟩
end Go.Proofs.YtiehlnokidhgfaaGreat

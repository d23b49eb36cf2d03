/- The walk of backstaylaw10.StableNear. -/
import Derived.Test.YtablbagdnmbbfaaGreatLaw10
import Derived.Test.YtablbagdnmbbfaaGreatNearP
import Derived.Test.YtablbagdnmbbfaaGreatLaws
namespace Go.Proofs.YtablbagdnmbbfaaGreat
set_option linter.unusedSimpArgs false
set_option linter.unusedVariables false
open Go.RowKit

/-- m's box, and what was there. -/
structure NrW (w5 wr : World) (b : Nat) (z : RtZ) : Prop where
  below : Below w5.heap.size w5 wr
  box : wr.heap[b]? = some (.cells #[.int .i64 z.1.kind, .int .i64 z.1.cost, .slice z.2.1 z.1.path.length z.2.2] 53 (0, 0))

theorem NrW.new {w5 wm : World} {z : RtZ} (hB : Below w5.heap.size w5 wm) : NrW w5 (wm.alloc (.cells #[.int .i64 z.1.kind, .int .i64 z.1.cost, .slice z.2.1 z.1.path.length z.2.2] 53)) wm.heap.size z := ⟨since_alloc hB _, heap_alloc_new _ _⟩
theorem NrW.put {w5 w' : World} {b : Nat} {z : RtZ} (hB : Below w5.heap.size w5 w') (hb : w5.heap.size ≤ b) (kz : w'.heap[b]? = some (.cells #[.int .i64 0, .int .i64 0, .slice none 0 0] 53 (0, 0))) :
    NrW w5 (((w'.setCell ⟨b, 0, none⟩ (.int .i64 z.1.kind)).setCell ⟨b, 1, none⟩ (.int .i64 z.1.cost)).setCell ⟨b, 2, none⟩ (.slice z.2.1 z.1.path.length z.2.2)) b z := by
  have h1 := heap_setCell_same w' b 0 _ _ (.int .i64 z.1.kind) kz
  have h2 := heap_setCell_same _ b 1 _ _ (.int .i64 z.1.cost) h1
  have h3 := heap_setCell_same _ b 2 _ _ (.slice z.2.1 z.1.path.length z.2.2) h2
  exact ⟨((hB.setCell hb _).setCell hb _).setCell hb _, h3⟩
theorem NrW.call {w5 wr w' : World} {b : Nat} {z : RtZ} (a : NrW w5 wr b z) (hb : Below wr.heap.size wr w') : NrW w5 w' b z := ⟨since_trans a.below hb, (hb.block _ (lt_heap a.box)).trans a.box⟩
theorem NrW.drew {w5 wr : World} {b : Nat} {z : RtZ} (a : NrW w5 wr b z) : NrW w5 wr.drew b z := a.call (below_drew (Below.refl _ _))

attribute [local go_sem ↓] Go.wp_at_zero Go.wp_at_succ
set_option maxRecDepth 100000 in
set_option maxHeartbeats 8000000 in
theorem stableNear_walk (a0 : Option Addr) (c0 : Nat) (l0 : List Int) (n1 n2 : Int) (w : World) (h0 : InRow w a0 c0 l0) (k1 : In64 n1) (k2 : In64 n2) :
    Calls Tryz.prog 7 #[.slice a0 l0.length c0, .int .i64 n1, .int .i64 n2] w fun e w' => e = .returned (.bool true) ∧ Below w.heap.size w w' := by
  have I1 := Lib.hid k1
  have I2 := Lib.hid k2
  clear k1 k2
  have H0 := Lib.hid h0
  clear h0
  go_enter Tryz.func7, Tryz.ntmps7
  go_wp2_with fail
  refine (awake10 _).mono ?_
  rintro e w1 ⟨rfl, hb1⟩
  have J0 := Lib.hid (H0.out.call hb1)
  have B1 := Lib.hid hb1
  clear hb1
  go_wp2_with fail
  refine (net_any _ _ l0 c0 J0.out.len J0.out.le J0.out.rd J0.out.in64).mono ?_
  rintro e w2 ⟨p, h, rfl, hok, hown, hb⟩
  have B2 := Lib.hid (since_trans B1.out hb)
  have OK := Lib.hid hok
  have GD := Lib.hid hok.good
  have NG := Lib.hid hok.good.netG
  have P0 : Hid (NW w (w2.alloc (.cells #[.int .i64 p.proto, .int .i64 p.cap, .int .i64 p.k, .slice h.an p.nodes.length h.cn, .slice h.al p.links.length h.cl, .slice h.ad p.dests.length h.cd, .slice h.ac p.checks.length h.cc] 30)) w2.heap.size p h []) := Lib.hid ⟨PB.begin B2.out hown.net, by intro z hz; cases hz⟩
  have hn2 := hok.n.1
  have hn7 := hok.n.2
  have hl9 := hok.l9
  clear hb hown hok J0
  unfold netV netVal
  go_upto_region 3 with fail
  generalize (w2.alloc (.cells #[.int .i64 p.proto, .int .i64 p.cap, .int .i64 p.k, .slice h.an p.nodes.length h.cn, .slice h.al p.links.length h.cl, .slice h.ad p.dests.length h.cd, .slice h.ac p.checks.length h.cc] 30)) = w3 at *
  generalize w2.heap.size = bp at *
  clear B1 B2
  obtain ⟨g0, g1, g2, g3, g4, g5, g6⟩ := P0.out.pb.all
  have HD0 := Lib.hid (dest0 (p := p) (by have := OK.out.d12.1; omega))
  have hd1 := OK.out.d12.1
  go_wp2_with fail
  refine (pick10_any n1 512 _ I1.out (by omega) (by omega)).mono ?_
  rintro e w' ⟨rfl, rfl⟩
  generalize pickV n1 512 = x at *
  go_wp2_with fail
  refine (pick10_any n2 p.nodes.length _ I2.out (by omega) (by omega)).mono ?_
  rintro e w' ⟨rfl, rfl⟩
  have hn := pickV_in (c := n2) (n := p.nodes.length) (by omega)
  generalize pickV n2 p.nodes.length = n at *
  obtain ⟨n, rfl⟩ : ∃ k : Nat, n = k := ⟨n.toNat, by omega⟩
  obtain ⟨hn0, hn1⟩ := hn
  obtain ⟨R, hR, hS⟩ := stop_ex (p := p) (f := x) (d := 0) NG.out
  have HS := Lib.hid hS
  clear hS
  go_wp2_with fail
  refine (solve_any p h x 0 99 R _ P0.out.net GD.out HD0.out HS.out hR).mono ?_
  rintro e w4 hpost
  obtain ⟨Z, A, c, rfl, hZ, hL⟩ := solve_ok hpost (by omega)
  have P4 := Lib.hid (P0.out.call hL.below)
  have HZ := Lib.hid (hZ.trans (HS.out.end_ NG.out GD.out.lksOk))
  have LZ := Lib.hid hL.rts
  have HZl := Lib.hid (len_of hZ)
  have hZ12 : Z.length ≤ 12 := by have := HZl.out; omega
  have hnZ : (n : Int) < (Z.length : Int) := by have := HZl.out; omega
  have hnZ' : n < Z.length := by omega
  have hq : ((Z.length : Int) != (p.nodes.length : Int)) = false := by have := HZl.out; simp [this]
  clear hpost hZ hL g0 g1 g2 g3 g4 g5 g6
  obtain ⟨g0, g1, g2, g3, g4, g5, g6⟩ := P4.out.pb.all
  obtain ⟨ds, bd, od, hds, ed, hbd, hcd, hrd⟩ := P4.out.net.dest1 (d := 0) (by omega)
  simp only [Nat.zero_mul, Nat.add_zero] at hcd
  have HED := Lib.hid ed
  rw [ed] at g5
  have HOR := Lib.hid (show orgOf p 0 = ds.1.origins from by unfold orgOf; simp [hds])
  have hosl := GD.out.small.origins _ (List.mem_of_getElem? hds)
  have HRD := Lib.hid hrd
  have hdl : (0 : Int) < (p.dests.length : Int) := by omega
  clear hds ed hrd
  go_wp2_with fail
  go_loopw [14, 15] (fun so si wx => ∃ k : Nat, k ≤ ds.1.origins.length ∧ si = .int .i64 k ∧ so = .bool (decide ((n : Int) ∈ ds.1.origins.take k)) ∧ wx = w4) (fun _ si _ => ds.1.origins.length - (intOf si).toNat)
  case atStart => exact ⟨0, Nat.zero_le _, rfl, by simp, rfl⟩
  case round =>
    obtain ⟨k, hk, rfl, rfl, rfl⟩ := hrel
    by_cases hlt : k < ds.1.origins.length
    · obtain ⟨o, ho⟩ : ∃ o, ds.1.origins[k]? = some o := ⟨_, List.getElem?_eq_getElem hlt⟩
      obtain ⟨b3, o3, e3, hb3, hc3⟩ := HRD.out.one (ints_at ho)
      rw [e3] at hcd
      clear e3
      have hts : ds.1.origins.take (k + 1) = ds.1.origins.take k ++ [o] := by rw [List.take_add_one, ho]; rfl
      have hk0 : (0 : Int) ≤ (k : Int) := by omega
      by_cases hin : (n : Int) ∈ ds.1.origins.take k
      · have HT := Lib.hid (show decide ((n : Int) ∈ ds.1.origins.take (k + 1)) = true from decide_eq_true (by rw [hts]; exact List.mem_append_left _ hin))
        rw [show decide ((n : Int) ∈ ds.1.origins.take k) = true from decide_eq_true hin]
        clear hin hts ho
        go_wp2
        go_roundw
        case rel => exact ⟨k + 1, by omega, by go_num, by rw [HT.out], (by first | rfl | trivial)⟩
        case measure => simp [intOf]; omega
      · have HT := Lib.hid (show decide ((n : Int) ∈ ds.1.origins.take (k + 1)) = (o == (n : Int)) from by
          rw [hts, Bool.eq_iff_iff]
          simp only [decide_eq_true_eq, List.mem_append, List.mem_singleton, beq_iff_eq]
          constructor
          · rintro (h | h)
            · exact absurd h hin
            · exact h.symm
          · intro h; exact .inr h.symm)
        rw [show decide ((n : Int) ∈ ds.1.origins.take k) = false from decide_eq_false hin]
        clear hin hts ho
        go_wp2
        go_roundw
        case rel => exact ⟨k + 1, by omega, by go_num, by rw [HT.out], (by first | rfl | trivial)⟩
        case measure => simp [intOf]; omega
    · have hke : k = ds.1.origins.length := by omega
      obtain ⟨z, hz⟩ : ∃ z, Z[n]? = some z := ⟨_, List.getElem?_eq_getElem hnZ'⟩
      obtain ⟨bz, oz, e, hbz, z0, z1, z2⟩ := LZ.out.at_ hz
      subst e
      have hzn : z.1 = endF p x 0 n := by
        have h1 : (Z.map (·.1))[n]? = some z.1 := by rw [List.getElem?_map, hz]; rfl
        rw [HZ.out, stL_at (by omega)] at h1
        injection h1 with h1
        exact h1.symm
      have HZN := Lib.hid hzn
      have hor : ((rtLen z.1 == 0) != decide ((n : Int) ∈ ds.1.origins.take k)) = false := by
        rw [hke, List.take_length, bne_eq_false_iff_eq, Bool.eq_iff_iff, beq_iff_eq, decide_eq_true_eq, hzn, end_zero NG.out HD0.out, HOR.out]
      clear hz hke hzn
      go_wp2_with fail
      refine (length_rt z.1 _ _ _).mono ?_
      rintro e w5 ⟨rfl, hb5⟩
      have hqe : decide ((n : Int) ∈ ds.1.origins.take k) = (rtLen z.1 == 0) := by
        have := hor
        rw [bne_eq_false_iff_eq] at this
        exact this.symm
      rw [hqe]
      generalize rtLen z.1 = rl at *
      clear hor hqe
      have P5 := Lib.hid (P4.out.call hb5)
      have L5 := Lib.hid (LZ.out.call hb5)
      clear hb5 g0 g1 g2 g3 g4 g5 g6 hcd hbd z0 z1 z2 hbz
      obtain ⟨g0, g1, g2, g3, g4, g5, g6⟩ := P5.out.pb.all
      go_wp2_with fail
      refine (aroundX_any p h x n _ P5.out.net GD.out).mono ?_
      rintro e w6 ⟨Aa, ca, rfl, hoa, hb6⟩
      have P6 := Lib.hid (P5.out.call hb6)
      have L6 := Lib.hid (L5.out.call hb6)
      have OA := Lib.hid hoa.rd
      have HAR : Hid (∀ k ∈ arL p.links x n p.links.length, k < p.links.length ∧ ∃ u : Nat, othL p.links k n = u ∧ u < p.nodes.length) := Lib.hid (fun k hk => by
        obtain ⟨h1, h2⟩ := mem_arL.1 hk
        have hx : p.links[k]? = some p.links[k] := List.getElem?_eq_getElem h1
        obtain ⟨m, hm, hmN, -⟩ := ar_oth GD.out.lksOk hx h2
        exact ⟨h1, m, by unfold othL; simp [hx, hm], hmN⟩)
      have HEN : Hid (p.proto ≠ 2 → ∀ k ∈ arL p.links x n p.links.length, ∀ u : Nat, othL p.links k n = u → (endF p x 0 u).kind ≠ 0 → (endF p x 0 u).cost + costOf p k ≤ 15 → (endF p x 0 n).kind ≠ 0 ∧ (endF p x 0 n).cost ≤ (endF p x 0 u).cost + costOf p k) := Lib.hid (fun hp k hk u hu => end_near NG.out hp hk hu)
      have hal := arL_le p.links x n p.links.length
      generalize arL p.links x n p.links.length = ar at *
      clear hoa hb6 g0 g1 g2 g3 g4 g5 g6
      go_wp2_with fail
      go_loopw [17] (fun si wx => ∃ j : Nat, j ≤ ar.length ∧ si = .int .i64 j ∧ Below w6.heap.size w6 wx) (fun si _ => ar.length - (intOf si).toNat)
      case atStart => exact ⟨0, Nat.zero_le _, rfl, Below.refl _ _⟩
      case round =>
        obtain ⟨j, hj, rfl, hB⟩ := hrel
        have BX := Lib.hid hB
        have P7 := Lib.hid (P6.out.call hB)
        obtain ⟨g0, g1, g2, g3, g4, g5, g6⟩ := P7.out.pb.all
        by_cases hlt : j < ar.length
        · by_cases hpr : p.proto = 1
          · have hp2 : p.proto ≠ 2 := by omega
            obtain ⟨k, hk⟩ : ∃ k, ar[j]? = some k := ⟨_, List.getElem?_eq_getElem hlt⟩
            obtain ⟨hkl, u, hu, huN⟩ := HAR.out k (List.mem_of_getElem? hk)
            obtain ⟨ba, oa, ea, hba, hca⟩ := OA.out.one (nats_at hk)
            subst ea
            obtain ⟨y, hy⟩ : ∃ y, Z[u]? = some y := ⟨_, List.getElem?_eq_getElem (by have := HZl.out; omega)⟩
            obtain ⟨by_, oy, ey, hby, y0, y1, y2⟩ := L6.out.at_ hy
            injection ey with ey
            injection ey with ey1 ey2
            subst ey1 ey2
            obtain ⟨v, hv⟩ := NG.out.link (k := k) hkl
            obtain ⟨bl, ol, el, hbl, v0, v1, v2⟩ := P6.out.net.links.link hv.at_
            obtain ⟨z', hz'⟩ : ∃ z', Z[n]? = some z' := ⟨_, List.getElem?_eq_getElem hnZ'⟩
            obtain ⟨bz', oz', ez', hbz', z0, z1, -⟩ := L6.out.at_ hz'
            injection ez' with ez'
            injection ez' with e5 e6
            subst e5 e6
            have hzn' : z'.1 = endF p x 0 n := by
              have h1 : (Z.map (·.1))[n]? = some z'.1 := by rw [List.getElem?_map, hz']; rfl
              rw [HZ.out, stL_at (by omega)] at h1
              injection h1 with h1
              exact h1.symm
            have hyu : y.1 = endF p x 0 u := by
              have h1 : (Z.map (·.1))[u]? = some y.1 := by rw [List.getElem?_map, hy]; rfl
              rw [HZ.out, stL_at huN] at h1
              injection h1 with h1
              exact h1.symm
            have HNR : Hid (y.1.kind ≠ 0 → y.1.cost + v.cost ≤ 15 → z'.1.kind ≠ 0 ∧ z'.1.cost ≤ y.1.cost + v.cost) := Lib.hid (fun h1 h2 => by
              have := HEN.out hp2 k (List.mem_of_getElem? hk) u hu
              rw [← hyu, ← hzn', hv.cost] at this
              exact this h1 h2)
            have hyc : 0 ≤ y.1.cost ∧ y.1.cost ≤ 15 := by
              rcases (end_fits (f := x) (d := 0) NG.out u).1.kind with e | e | e
              · rw [hyu, (end_fits (f := x) (d := 0) NG.out u).1.k0 e]; decide
              · rw [hyu]; have := (end_fits (f := x) (d := 0) NG.out u).1.k1 e; omega
              · rw [hyu]; have := (end_fits (f := x) (d := 0) NG.out u).1.k2 e; omega
            have hvc := hv.c
            have HE := Lib.hid el
            have HC : Hid (∀ wy, Below w6.heap.size w6 wy → (wy.cell? ⟨bp, 0, none⟩ = some (.int .i64 p.proto) ∧ wy.cell? ⟨bp, 1, none⟩ = some (.int .i64 p.cap) ∧ wy.cell? ⟨bp, 2, none⟩ = some (.int .i64 p.k) ∧ wy.cell? ⟨bp, 3, none⟩ = some (.slice h.an p.nodes.length h.cn) ∧ wy.cell? ⟨bp, 4, none⟩ = some (.slice (some ⟨bl, ol, none⟩) p.links.length h.cl) ∧ wy.cell? ⟨bp, 5, none⟩ = some (.slice h.ad p.dests.length h.cd) ∧ wy.cell? ⟨bp, 6, none⟩ = some (.slice h.ac p.checks.length h.cc)) ∧ wy.cell? ⟨ba, oa + j, none⟩ = some (.int .i64 (k : Int)) ∧ (wy.cell? ⟨bz, oz + u * 3, none⟩ = some (.int .i64 y.1.kind) ∧ wy.cell? ⟨bz, oz + u * 3 + 1, none⟩ = some (.int .i64 y.1.cost) ∧ wy.cell? ⟨bz, oz + u * 3 + 2, none⟩ = some (.slice y.2.1 y.1.path.length y.2.2)) ∧ wy.cell? ⟨bl, ol + k * 3 + 2, none⟩ = some (.int .i64 v.cost)) := Lib.hid (fun wy hb => by
              obtain ⟨q0, q1, q2, q3, q4, q5, q6⟩ := (P6.out.call hb).pb.all
              rw [HE.out] at q4
              exact ⟨⟨q0, q1, q2, q3, q4, q5, q6⟩, (hb.cell (p := ⟨ba, _, none⟩) hba).trans hca, ⟨(hb.cell (p := ⟨bz, _, none⟩) hby).trans y0, (hb.cell (p := ⟨bz, _, none⟩) hby).trans y1, (hb.cell (p := ⟨bz, _, none⟩) hby).trans y2⟩, (hb.cell (p := ⟨bl, _, none⟩) hbl).trans v2⟩)
            have HD2 : Hid (∀ wy, Below w6.heap.size w6 wy → wy.cell? ⟨bz, oz + n * 3, none⟩ = some (.int .i64 z'.1.kind) ∧ wy.cell? ⟨bz, oz + n * 3 + 1, none⟩ = some (.int .i64 z'.1.cost)) := Lib.hid (fun wy hb => ⟨(hb.cell (p := ⟨bz, _, none⟩) hby).trans z0, (hb.cell (p := ⟨bz, _, none⟩) hby).trans z1⟩)
            have CO : Hid (∀ wy, Below w6.heap.size w6 wy → Calls Tryz.prog 27 #[.agg #[.int .i64 p.proto, .int .i64 p.cap, .int .i64 p.k, .slice h.an p.nodes.length h.cn, .slice (some ⟨bl, ol, none⟩) p.links.length h.cl, .slice h.ad p.dests.length h.cd, .slice h.ac p.checks.length h.cc], .int .i64 (k : Int), .int .i64 (n : Int)] wy fun e w' => e = .returned (.int .i64 (u : Int)) ∧ Below w6.heap.size w6 w' ∧ Below wy.heap.size wy w') := Lib.hid (fun wy hb => by
              have hh := otherX_any p h k n wy (P6.out.call hb).net GD.out
              unfold netV netVal at hh
              rw [HE.out] at hh
              exact hh.mono fun e w' ⟨h1, h2⟩ => ⟨by rw [h1, hu], since_trans hb h2, h2⟩)
            have huZ : (u : Int) < (Z.length : Int) := by have := HZl.out; omega
            have huZ' : u < Z.length := by omega
            have CP1 : Hid (∀ wy, Calls Tryz.prog 15 #[.int .i64 (u : Int), .int .i64 (Z.length : Int)] wy fun e w' => e = .returned (.int .i64 (u : Int)) ∧ wy = w') := Lib.hid (fun wy => (pick10_any u Z.length wy (by unfold In64; omega) (by omega) (by omega)).mono fun e w' ⟨h1, h2⟩ => ⟨by rw [h1]; congr 2; unfold pickV; rw [if_neg (by omega)]; exact Int.emod_eq_of_lt (by omega) huZ, h2⟩)
            have hl9' := OK.out.l9
            have CP2 : Hid (∀ wy, Calls Tryz.prog 15 #[.int .i64 (k : Int), .int .i64 (p.links.length : Int)] wy fun e w' => e = .returned (.int .i64 (k : Int)) ∧ wy = w') := Lib.hid (fun wy => (pick10_any k p.links.length wy (by unfold In64; omega) (by omega) (by omega)).mono fun e w' ⟨h1, h2⟩ => ⟨by rw [h1]; congr 2; unfold pickV; rw [if_neg (by omega)]; exact Int.emod_eq_of_lt (by omega) (by omega), h2⟩)
            have hj0 : (0 : Int) ≤ (j : Int) := by omega
            have hpq : (p.proto == 1) = true := by simp [hpr]
            have hk16 : k < p.links.length := hkl
            rw [el] at g4
            clear hpr hk hu hy hz' y0 y1 y2 v0 v1 v2 z0 z1 hca hba hby hbl hbz' hzn' hyu el hp2 hv
            go_upto_region 19 with fail
            clear g0 g1 g2 g3 g4 g5 g6
            go_cut [18] (fun s wx => ∃ b : Nat, s = .pointer (some ⟨b, 0, none⟩) ∧ NrW w6 wx b y)
            case first =>
              go_wp2_with fail
              have hBd := below_drew hB
              refine wp_region_held_drew (S := (fun wy => (wy.cell? ⟨bp, 0, none⟩ = some (.int .i64 p.proto) ∧ wy.cell? ⟨bp, 1, none⟩ = some (.int .i64 p.cap) ∧ wy.cell? ⟨bp, 2, none⟩ = some (.int .i64 p.k) ∧ wy.cell? ⟨bp, 3, none⟩ = some (.slice h.an p.nodes.length h.cn) ∧ wy.cell? ⟨bp, 4, none⟩ = some (.slice (some ⟨bl, ol, none⟩) p.links.length h.cl) ∧ wy.cell? ⟨bp, 5, none⟩ = some (.slice h.ad p.dests.length h.cd) ∧ wy.cell? ⟨bp, 6, none⟩ = some (.slice h.ac p.checks.length h.cc)) ∧ wy.cell? ⟨ba, oa + j, none⟩ = some (.int .i64 (k : Int)) ∧ (wy.cell? ⟨bz, oz + u * 3, none⟩ = some (.int .i64 y.1.kind) ∧ wy.cell? ⟨bz, oz + u * 3 + 1, none⟩ = some (.int .i64 y.1.cost) ∧ wy.cell? ⟨bz, oz + u * 3 + 2, none⟩ = some (.slice y.2.1 y.1.path.length y.2.2)) ∧ wy.cell? ⟨bl, ol + k * 3 + 2, none⟩ = some (.int .i64 v.cost))) (by kernel_rfl) (HC.out _ hBd) (fun hHeld0 => ?_)
              refine take_list (i := 0) (v := ?_) rfl (by kernel_rfl) (by kernel_rfl) (by kernel_rfl) (fun _ _ _ h => h) (Or.inl ⟨by rfl, ?_⟩) (by assumption) ?_
              rotate_left
              · (intro w hSw; (try dsimp only at hSw); go_simp; try (with_reducible rfl))
              try simp only [Act.put, List.setIfInBounds_toArray, List.set_cons_zero, List.set_cons_succ]
              refine take_list (i := 1) (v := ?_) rfl (by kernel_rfl) (by kernel_rfl) (by kernel_rfl) (fun _ _ _ h => h) (Or.inl ⟨by rfl, ?_⟩) (by assumption) ?_
              rotate_left
              · (intro w hSw; (try dsimp only at hSw); go_simp; try (with_reducible rfl))
              try simp only [Act.put, List.setIfInBounds_toArray, List.set_cons_zero, List.set_cons_succ]
              refine take_list (i := 2) (v := ?_) rfl (by kernel_rfl) (by kernel_rfl) (by kernel_rfl) (fun _ _ _ h => h) (Or.inl ⟨by rfl, ?_⟩) (by assumption) ?_
              rotate_left
              · (intro w hSw; (try dsimp only at hSw); go_simp; try (with_reducible rfl))
              try simp only [Act.put, List.setIfInBounds_toArray, List.set_cons_zero, List.set_cons_succ]
              refine take_list (i := 3) (v := ?_) rfl (by kernel_rfl) (by kernel_rfl) (by kernel_rfl) (fun _ _ _ h => h) (Or.inl ⟨by rfl, ?_⟩) (by assumption) ?_
              rotate_left
              · (intro w hSw; (try dsimp only at hSw); go_simp; try (with_reducible rfl))
              try simp only [Act.put, List.setIfInBounds_toArray, List.set_cons_zero, List.set_cons_succ]
              refine take_list (i := 4) (v := ?_) rfl (by kernel_rfl) (by kernel_rfl) (by kernel_rfl) (fun _ _ _ h => h) (Or.inl ⟨by rfl, ?_⟩) (by assumption) ?_
              rotate_left
              · (intro w hSw; (try dsimp only at hSw); go_simp; try (with_reducible rfl))
              try simp only [Act.put, List.setIfInBounds_toArray, List.set_cons_zero, List.set_cons_succ]
              refine take_list (i := 5) (v := ?_) rfl (by kernel_rfl) (by kernel_rfl) (by kernel_rfl) (fun _ _ _ h => h) (Or.inl ⟨by rfl, ?_⟩) (by assumption) ?_
              rotate_left
              · (intro w hSw; (try dsimp only at hSw); go_simp; try (with_reducible rfl))
              try simp only [Act.put, List.setIfInBounds_toArray, List.set_cons_zero, List.set_cons_succ]
              refine take_list (i := 6) (v := ?_) rfl (by kernel_rfl) (by kernel_rfl) (by kernel_rfl) (fun _ _ _ h => h) (Or.inl ⟨by rfl, ?_⟩) (by assumption) ?_
              rotate_left
              · (intro w hSw; (try dsimp only at hSw); go_simp; try (with_reducible rfl))
              try simp only [Act.put, List.setIfInBounds_toArray, List.set_cons_zero, List.set_cons_succ]
              refine take_list (i := 8) (v := ?_) rfl (by kernel_rfl) (by kernel_rfl) (by kernel_rfl) (fun _ _ _ h => h) (Or.inl ⟨by rfl, ?_⟩) (by assumption) ?_
              rotate_left
              · (intro w hSw; (try dsimp only at hSw); go_simp; try (with_reducible rfl))
              try simp only [Act.put, List.setIfInBounds_toArray, List.set_cons_zero, List.set_cons_succ]
              refine take_list (i := 9) (v := ?_) rfl (by kernel_rfl) (by kernel_rfl) (by kernel_rfl) (fun _ _ _ h => h) (Or.inl ⟨by rfl, ?_⟩) (by assumption) ?_
              rotate_left
              · (intro w hSw; (try dsimp only at hSw); go_simp; try (with_reducible rfl))
              try simp only [Act.put, List.setIfInBounds_toArray, List.set_cons_zero, List.set_cons_succ]
              refine wpAnyH_ready (rs := [7, 13]) (by kernel_rfl) (by simp) ?_
              refine cons_list rfl (fun K hK => ?_) (cons_list rfl (fun K hK => ?_) AllReadyH.nil)
              ·
                go_simp
                (go_at_call 27; refine (CO.out _ (by repeat (first | assumption | (refine since_alloc ?_ _) | (refine below_drew ?_)))).mono ?_; rintro e wm ⟨rfl, hBm, hBB⟩)
                refine hK.out _ _ (HC.out _ (by repeat (first | assumption | (refine since_alloc ?_ _) | (refine below_drew ?_) | (refine Below.setCell ?_ (by exact hB.size) _)))) (fun hHeld1 => ?_)
                clear hK K hHeld0
                try simp only [Act.put, List.setIfInBounds_toArray, List.set_cons_zero, List.set_cons_succ]
                refine wpAnyH_ready (rs := [10, 13]) (by kernel_rfl) (by simp) ?_
                refine cons_list rfl (fun K hK => ?_) (cons_list rfl (fun K hK => ?_) AllReadyH.nil)
                ·
                  go_simp
                  (go_at_call 15; refine (CP1.out _).mono ?_; rintro e wn ⟨rfl, rfl⟩)
                  refine hK.out _ _ (HC.out _ (by repeat (first | assumption | (refine since_alloc ?_ _) | (refine below_drew ?_) | (refine Below.setCell ?_ (by exact hB.size) _)))) (fun hHeld2 => ?_)
                  clear hK K hHeld1
                  try simp only [Act.put, List.setIfInBounds_toArray, List.set_cons_zero, List.set_cons_succ]
                  refine take_list (i := 11) (v := ?_) rfl (by kernel_rfl) (by kernel_rfl) (by kernel_rfl) (fun _ _ _ h => h) (Or.inl ⟨by rfl, ?_⟩) (by assumption) ?_
                  rotate_left
                  · (intro w hSw; (try dsimp only at hSw); go_simp; try (with_reducible rfl))
                  try simp only [Act.put, List.setIfInBounds_toArray, List.set_cons_zero, List.set_cons_succ]
                  refine take_list (i := 12) (v := ?_) rfl (by kernel_rfl) (by kernel_rfl) (by kernel_rfl) (fun _ _ _ h => h) (Or.inl ⟨by rfl, ?_⟩) (by assumption) ?_
                  rotate_left
                  · (intro w hSw; (try dsimp only at hSw); go_simp; try (with_reducible rfl))
                  try simp only [Act.put, List.setIfInBounds_toArray, List.set_cons_zero, List.set_cons_succ]
                  refine wpAnyH_ready (rs := [13]) (by kernel_rfl) (by simp) ?_
                  refine cons_list rfl (fun K hK => ?_) AllReadyH.nil
                  go_simp
                  refine hK.out _ _ (HC.out _ (by repeat (first | assumption | (refine since_alloc ?_ _) | (refine below_drew ?_) | (refine Below.setCell ?_ (by exact hB.size) _)))) (fun hHeld3 => ?_)
                  clear hK K hHeld2
                  try simp only [Act.put, List.setIfInBounds_toArray, List.set_cons_zero, List.set_cons_succ]
                  refine wpAnyH_ready (rs := [14]) (by kernel_rfl) (by simp) ?_
                  refine cons_list rfl (fun K hK => ?_) AllReadyH.nil
                  (first | (have kz := (by first | exact new_kept_d hBB | exact new_kept hBB); have kr0 := cell_of_row wm _ 0 _ _ _ kz; have kr1 := cell_of_row wm _ 1 _ _ _ kz; have kr2 := cell_of_row wm _ 2 _ _ _ kz; have kf0 := frozen_of_row wm _ 0 _ _ kz; have kf1 := frozen_of_row wm _ 1 _ _ kz; have kf2 := frozen_of_row wm _ 2 _ _ kz) | skip)
                  go_simp
                  refine hK.out _ _ (HC.out _ (by repeat (first | assumption | (refine since_alloc ?_ _) | (refine below_drew ?_) | (refine Below.setCell ?_ (by exact hB.size) _)))) (fun hHeld4 => ?_)
                  clear hK K hHeld3
                  try simp only [Act.put, List.setIfInBounds_toArray, List.set_cons_zero, List.set_cons_succ]
                  refine wpAnyH_done (by kernel_rfl) ?_ _
                  clear hHeld4
                  go_wp2
                  go_meet
                  case rel => refine ⟨_, rfl, ?_⟩; first | exact NrW.new hBm | exact NrW.put hBm hB.size kz
                ·
                  go_simp
                  refine hK.out _ _ (HC.out _ (by repeat (first | assumption | (refine since_alloc ?_ _) | (refine below_drew ?_) | (refine Below.setCell ?_ (by exact hB.size) _)))) (fun hHeld2 => ?_)
                  clear hK K hHeld1
                  try simp only [Act.put, List.setIfInBounds_toArray, List.set_cons_zero, List.set_cons_succ]
                  refine wpAnyH_ready (rs := [10]) (by kernel_rfl) (by simp) ?_
                  refine cons_list rfl (fun K hK => ?_) AllReadyH.nil
                  go_simp
                  (go_at_call 15; refine (CP1.out _).mono ?_; rintro e wn ⟨rfl, rfl⟩)
                  refine hK.out _ _ (HC.out _ (by repeat (first | assumption | (refine since_alloc ?_ _) | (refine below_drew ?_) | (refine Below.setCell ?_ (by exact hB.size) _)))) (fun hHeld3 => ?_)
                  clear hK K hHeld2
                  try simp only [Act.put, List.setIfInBounds_toArray, List.set_cons_zero, List.set_cons_succ]
                  refine take_list (i := 11) (v := ?_) rfl (by kernel_rfl) (by kernel_rfl) (by kernel_rfl) (fun _ _ _ h => h) (Or.inl ⟨by rfl, ?_⟩) (by assumption) ?_
                  rotate_left
                  · (intro w hSw; (try dsimp only at hSw); go_simp; try (with_reducible rfl))
                  try simp only [Act.put, List.setIfInBounds_toArray, List.set_cons_zero, List.set_cons_succ]
                  refine take_list (i := 12) (v := ?_) rfl (by kernel_rfl) (by kernel_rfl) (by kernel_rfl) (fun _ _ _ h => h) (Or.inl ⟨by rfl, ?_⟩) (by assumption) ?_
                  rotate_left
                  · (intro w hSw; (try dsimp only at hSw); go_simp; try (with_reducible rfl))
                  try simp only [Act.put, List.setIfInBounds_toArray, List.set_cons_zero, List.set_cons_succ]
                  refine wpAnyH_ready (rs := [14]) (by kernel_rfl) (by simp) ?_
                  refine cons_list rfl (fun K hK => ?_) AllReadyH.nil
                  (first | (have kz := (by first | exact new_kept_d hBB | exact new_kept hBB); have kr0 := cell_of_row wm _ 0 _ _ _ kz; have kr1 := cell_of_row wm _ 1 _ _ _ kz; have kr2 := cell_of_row wm _ 2 _ _ _ kz; have kf0 := frozen_of_row wm _ 0 _ _ kz; have kf1 := frozen_of_row wm _ 1 _ _ kz; have kf2 := frozen_of_row wm _ 2 _ _ kz) | skip)
                  go_simp
                  refine hK.out _ _ (HC.out _ (by repeat (first | assumption | (refine since_alloc ?_ _) | (refine below_drew ?_) | (refine Below.setCell ?_ (by exact hB.size) _)))) (fun hHeld4 => ?_)
                  clear hK K hHeld3
                  try simp only [Act.put, List.setIfInBounds_toArray, List.set_cons_zero, List.set_cons_succ]
                  refine wpAnyH_done (by kernel_rfl) ?_ _
                  clear hHeld4
                  go_wp2
                  go_meet
                  case rel => refine ⟨_, rfl, ?_⟩; first | exact NrW.new hBm | exact NrW.put hBm hB.size kz
              ·
                go_simp
                refine hK.out _ _ (HC.out _ (by repeat (first | assumption | (refine since_alloc ?_ _) | (refine below_drew ?_) | (refine Below.setCell ?_ (by exact hB.size) _)))) (fun hHeld1 => ?_)
                clear hK K hHeld0
                try simp only [Act.put, List.setIfInBounds_toArray, List.set_cons_zero, List.set_cons_succ]
                refine wpAnyH_ready (rs := [7]) (by kernel_rfl) (by simp) ?_
                refine cons_list rfl (fun K hK => ?_) AllReadyH.nil
                go_simp
                (go_at_call 27; refine (CO.out _ (by repeat (first | assumption | (refine since_alloc ?_ _) | (refine below_drew ?_)))).mono ?_; rintro e wm ⟨rfl, hBm, hBB⟩)
                refine hK.out _ _ (HC.out _ (by repeat (first | assumption | (refine since_alloc ?_ _) | (refine below_drew ?_) | (refine Below.setCell ?_ (by exact hB.size) _)))) (fun hHeld2 => ?_)
                clear hK K hHeld1
                try simp only [Act.put, List.setIfInBounds_toArray, List.set_cons_zero, List.set_cons_succ]
                refine wpAnyH_ready (rs := [10]) (by kernel_rfl) (by simp) ?_
                refine cons_list rfl (fun K hK => ?_) AllReadyH.nil
                go_simp
                (go_at_call 15; refine (CP1.out _).mono ?_; rintro e wn ⟨rfl, rfl⟩)
                refine hK.out _ _ (HC.out _ (by repeat (first | assumption | (refine since_alloc ?_ _) | (refine below_drew ?_) | (refine Below.setCell ?_ (by exact hB.size) _)))) (fun hHeld3 => ?_)
                clear hK K hHeld2
                try simp only [Act.put, List.setIfInBounds_toArray, List.set_cons_zero, List.set_cons_succ]
                refine take_list (i := 11) (v := ?_) rfl (by kernel_rfl) (by kernel_rfl) (by kernel_rfl) (fun _ _ _ h => h) (Or.inl ⟨by rfl, ?_⟩) (by assumption) ?_
                rotate_left
                · (intro w hSw; (try dsimp only at hSw); go_simp; try (with_reducible rfl))
                try simp only [Act.put, List.setIfInBounds_toArray, List.set_cons_zero, List.set_cons_succ]
                refine take_list (i := 12) (v := ?_) rfl (by kernel_rfl) (by kernel_rfl) (by kernel_rfl) (fun _ _ _ h => h) (Or.inl ⟨by rfl, ?_⟩) (by assumption) ?_
                rotate_left
                · (intro w hSw; (try dsimp only at hSw); go_simp; try (with_reducible rfl))
                try simp only [Act.put, List.setIfInBounds_toArray, List.set_cons_zero, List.set_cons_succ]
                refine wpAnyH_ready (rs := [14]) (by kernel_rfl) (by simp) ?_
                refine cons_list rfl (fun K hK => ?_) AllReadyH.nil
                (first | (have kz := (by first | exact new_kept_d hBB | exact new_kept hBB); have kr0 := cell_of_row wm _ 0 _ _ _ kz; have kr1 := cell_of_row wm _ 1 _ _ _ kz; have kr2 := cell_of_row wm _ 2 _ _ _ kz; have kf0 := frozen_of_row wm _ 0 _ _ kz; have kf1 := frozen_of_row wm _ 1 _ _ kz; have kf2 := frozen_of_row wm _ 2 _ _ kz) | skip)
                go_simp
                refine hK.out _ _ (HC.out _ (by repeat (first | assumption | (refine since_alloc ?_ _) | (refine below_drew ?_) | (refine Below.setCell ?_ (by exact hB.size) _)))) (fun hHeld4 => ?_)
                clear hK K hHeld3
                try simp only [Act.put, List.setIfInBounds_toArray, List.set_cons_zero, List.set_cons_succ]
                refine wpAnyH_done (by kernel_rfl) ?_ _
                clear hHeld4
                go_wp2
                go_meet
                case rel => refine ⟨_, rfl, ?_⟩; first | exact NrW.new hBm | exact NrW.put hBm hB.size kz
            case rest =>
            obtain ⟨b, rfl, hN⟩ := hcut
            have NX := Lib.hid hN
            have hwr : IntKind.i64.wrap (y.1.cost + v.cost) = y.1.cost + v.cost := by rw [IntKind.wrap_i64]; omega
            have hNd := hN.drew
            have hvl : (k : Int) < (p.links.length : Int) := by omega
            clear hN
            go_upto_region 20 with fail
            refine wp_region_held_drew (S := (fun wy => ((wy.cell? ⟨bp, 0, none⟩ = some (.int .i64 p.proto) ∧ wy.cell? ⟨bp, 1, none⟩ = some (.int .i64 p.cap) ∧ wy.cell? ⟨bp, 2, none⟩ = some (.int .i64 p.k) ∧ wy.cell? ⟨bp, 3, none⟩ = some (.slice h.an p.nodes.length h.cn) ∧ wy.cell? ⟨bp, 4, none⟩ = some (.slice (some ⟨bl, ol, none⟩) p.links.length h.cl) ∧ wy.cell? ⟨bp, 5, none⟩ = some (.slice h.ad p.dests.length h.cd) ∧ wy.cell? ⟨bp, 6, none⟩ = some (.slice h.ac p.checks.length h.cc)) ∧ wy.cell? ⟨ba, oa + j, none⟩ = some (.int .i64 (k : Int)) ∧ (wy.cell? ⟨bz, oz + u * 3, none⟩ = some (.int .i64 y.1.kind) ∧ wy.cell? ⟨bz, oz + u * 3 + 1, none⟩ = some (.int .i64 y.1.cost) ∧ wy.cell? ⟨bz, oz + u * 3 + 2, none⟩ = some (.slice y.2.1 y.1.path.length y.2.2)) ∧ wy.cell? ⟨bl, ol + k * 3 + 2, none⟩ = some (.int .i64 v.cost)) ∧ wy.cell? ⟨b, 0, none⟩ = some (.int .i64 y.1.kind) ∧ wy.cell? ⟨b, 1, none⟩ = some (.int .i64 y.1.cost) ∧ wy.cell? ⟨b, 2, none⟩ = some (.slice y.2.1 y.1.path.length y.2.2))) (by kernel_rfl) (⟨HC.out _ hNd.below, cell_of_row _ _ 0 _ _ _ hNd.box, cell_of_row _ _ 1 _ _ _ hNd.box, cell_of_row _ _ 2 _ _ _ hNd.box⟩) (fun hHeld0 => ?_)
            refine take_list (i := 0) (v := ?_) rfl (by kernel_rfl) (by kernel_rfl) (by kernel_rfl) (fun _ _ _ h => h) (Or.inl ⟨by rfl, ?_⟩) (by assumption) ?_
            rotate_left
            · (intro w hSw; (try dsimp only at hSw); go_simp; try (with_reducible rfl))
            try simp only [Act.put, List.setIfInBounds_toArray, List.set_cons_zero, List.set_cons_succ]
            refine take_list (i := 1) (v := ?_) rfl (by kernel_rfl) (by kernel_rfl) (by kernel_rfl) (fun _ _ _ h => h) (Or.inl ⟨by rfl, ?_⟩) (by assumption) ?_
            rotate_left
            · (intro w hSw; (try dsimp only at hSw); go_simp; try (with_reducible rfl))
            try simp only [Act.put, List.setIfInBounds_toArray, List.set_cons_zero, List.set_cons_succ]
            refine take_list (i := 2) (v := ?_) rfl (by kernel_rfl) (by kernel_rfl) (by kernel_rfl) (fun _ _ _ h => h) (Or.inl ⟨by rfl, ?_⟩) (by assumption) ?_
            rotate_left
            · (intro w hSw; (try dsimp only at hSw); go_simp; try (with_reducible rfl))
            try simp only [Act.put, List.setIfInBounds_toArray, List.set_cons_zero, List.set_cons_succ]
            refine take_list (i := 3) (v := ?_) rfl (by kernel_rfl) (by kernel_rfl) (by kernel_rfl) (fun _ _ _ h => h) (Or.inl ⟨by rfl, ?_⟩) (by assumption) ?_
            rotate_left
            · (intro w hSw; (try dsimp only at hSw); go_simp; try (with_reducible rfl))
            try simp only [Act.put, List.setIfInBounds_toArray, List.set_cons_zero, List.set_cons_succ]
            refine take_list (i := 4) (v := ?_) rfl (by kernel_rfl) (by kernel_rfl) (by kernel_rfl) (fun _ _ _ h => h) (Or.inl ⟨by rfl, ?_⟩) (by assumption) ?_
            rotate_left
            · (intro w hSw; (try dsimp only at hSw); go_simp; try (with_reducible rfl))
            try simp only [Act.put, List.setIfInBounds_toArray, List.set_cons_zero, List.set_cons_succ]
            refine take_list (i := 5) (v := ?_) rfl (by kernel_rfl) (by kernel_rfl) (by kernel_rfl) (fun _ _ _ h => h) (Or.inl ⟨by rfl, ?_⟩) (by assumption) ?_
            rotate_left
            · (intro w hSw; (try dsimp only at hSw); go_simp; try (with_reducible rfl))
            try simp only [Act.put, List.setIfInBounds_toArray, List.set_cons_zero, List.set_cons_succ]
            refine take_list (i := 6) (v := ?_) rfl (by kernel_rfl) (by kernel_rfl) (by kernel_rfl) (fun _ _ _ h => h) (Or.inl ⟨by rfl, ?_⟩) (by assumption) ?_
            rotate_left
            · (intro w hSw; (try dsimp only at hSw); go_simp; try (with_reducible rfl))
            try simp only [Act.put, List.setIfInBounds_toArray, List.set_cons_zero, List.set_cons_succ]
            refine take_list (i := 7) (v := ?_) rfl (by kernel_rfl) (by kernel_rfl) (by kernel_rfl) (fun _ _ _ h => h) (Or.inl ⟨by rfl, ?_⟩) (by assumption) ?_
            rotate_left
            · (intro w hSw; (try dsimp only at hSw); go_simp; try (with_reducible rfl))
            try simp only [Act.put, List.setIfInBounds_toArray, List.set_cons_zero, List.set_cons_succ]
            refine take_list (i := 8) (v := ?_) rfl (by kernel_rfl) (by kernel_rfl) (by kernel_rfl) (fun _ _ _ h => h) (Or.inl ⟨by rfl, ?_⟩) (by assumption) ?_
            rotate_left
            · (intro w hSw; (try dsimp only at hSw); go_simp; try (with_reducible rfl))
            try simp only [Act.put, List.setIfInBounds_toArray, List.set_cons_zero, List.set_cons_succ]
            refine take_list (i := 9) (v := ?_) rfl (by kernel_rfl) (by kernel_rfl) (by kernel_rfl) (fun _ _ _ h => h) (Or.inl ⟨by rfl, ?_⟩) (by assumption) ?_
            rotate_left
            · (intro w hSw; (try dsimp only at hSw); go_simp; try (with_reducible rfl))
            try simp only [Act.put, List.setIfInBounds_toArray, List.set_cons_zero, List.set_cons_succ]
            refine take_list (i := 10) (v := ?_) rfl (by kernel_rfl) (by kernel_rfl) (by kernel_rfl) (fun _ _ _ h => h) (Or.inl ⟨by rfl, ?_⟩) (by assumption) ?_
            rotate_left
            · (intro w hSw; (try dsimp only at hSw); go_simp; try (with_reducible rfl))
            try simp only [Act.put, List.setIfInBounds_toArray, List.set_cons_zero, List.set_cons_succ]
            refine wpAnyH_ready (rs := [11]) (by kernel_rfl) (by simp) ?_
            refine cons_list rfl (fun K hK => ?_) AllReadyH.nil
            go_simp
            (go_at_call 15; refine (CP2.out _).mono ?_; rintro e wn ⟨rfl, rfl⟩)
            refine hK.out _ _ (⟨HC.out _ hNd.below, cell_of_row _ _ 0 _ _ _ hNd.box, cell_of_row _ _ 1 _ _ _ hNd.box, cell_of_row _ _ 2 _ _ _ hNd.box⟩) (fun hHeld1 => ?_)
            clear hK K hHeld0
            try simp only [Act.put, List.setIfInBounds_toArray, List.set_cons_zero, List.set_cons_succ]
            refine take_list (i := 12) (v := ?_) rfl (by kernel_rfl) (by kernel_rfl) (by kernel_rfl) (fun _ _ _ h => h) (Or.inl ⟨by rfl, ?_⟩) (by assumption) ?_
            rotate_left
            · (intro w hSw; (try dsimp only at hSw); go_simp; try (with_reducible rfl))
            try simp only [Act.put, List.setIfInBounds_toArray, List.set_cons_zero, List.set_cons_succ]
            refine take_list (i := 13) (v := ?_) rfl (by kernel_rfl) (by kernel_rfl) (by kernel_rfl) (fun _ _ _ h => h) (Or.inl ⟨by rfl, ?_⟩) (by assumption) ?_
            rotate_left
            · (intro w hSw; (try dsimp only at hSw); go_simp; try (with_reducible rfl))
            try simp only [Act.put, List.setIfInBounds_toArray, List.set_cons_zero, List.set_cons_succ]
            refine take_list (i := 14) (v := ?_) rfl (by kernel_rfl) (by kernel_rfl) (by kernel_rfl) (fun _ _ _ h => h) (Or.inl ⟨by rfl, ?_⟩) (by assumption) ?_
            rotate_left
            · (intro w hSw; (try dsimp only at hSw); go_simp; try (with_reducible rfl))
            try simp only [Act.put, List.setIfInBounds_toArray, List.set_cons_zero, List.set_cons_succ]
            refine take_list (i := 15) (v := ?_) rfl (by kernel_rfl) (by kernel_rfl) (by kernel_rfl) (fun _ _ _ h => h) (Or.inl ⟨by rfl, ?_⟩) (by assumption) ?_
            rotate_left
            · (intro w hSw; (try dsimp only at hSw); go_simp; try (with_reducible rfl))
            try simp only [Act.put, List.setIfInBounds_toArray, List.set_cons_zero, List.set_cons_succ]
            refine take_list (i := 16) (v := ?_) rfl (by kernel_rfl) (by kernel_rfl) (by kernel_rfl) (fun _ _ _ h => h) (Or.inl ⟨by rfl, ?_⟩) (by assumption) ?_
            rotate_left
            · (intro w hSw; (try dsimp only at hSw); go_simp; try (with_reducible rfl))
            try simp only [Act.put, List.setIfInBounds_toArray, List.set_cons_zero, List.set_cons_succ]
            refine wpAnyH_done (by kernel_rfl) ?_ _
            clear hHeld1
            by_cases hk0 : y.1.kind = 0
            · have hq0 : (y.1.kind != 0) = false := by simp [hk0]
              have q0 := cell_of_row _ _ 0 _ _ _ hNd.box
              have NXd := Lib.hid hNd
              clear hk0 hNd
              go_wp2
              go_roundw
              case rel => exact ⟨j + 1, by omega, by go_num, NXd.out.below⟩
              case measure => simp [intOf]; omega
            · have hq0 : (y.1.kind != 0) = true := by simp [hk0]
              by_cases hc15 : y.1.cost + v.cost ≤ 15
              · obtain ⟨hzk, hzc⟩ := HNR.out hk0 hc15
                have hq1 : (z'.1.kind == 0) = false := by simp [hzk]
                have q0 := cell_of_row _ _ 0 _ _ _ hNd.box
                obtain ⟨z0, z1⟩ := HD2.out _ hNd.below
                have NXd := Lib.hid hNd
                clear hk0 hNd hzk
                go_wp2
                go_roundw
                case rel => exact ⟨j + 1, by omega, by go_num, NXd.out.below⟩
                case measure => simp [intOf]; omega
              · have q0 := cell_of_row _ _ 0 _ _ _ hNd.box
                have NXd := Lib.hid hNd
                clear hk0 hNd
                go_wp2
                go_roundw
                case rel => exact ⟨j + 1, by omega, by go_num, NXd.out.below⟩
                case measure => simp [intOf]; omega
          · have hpq : (p.proto == 1) = false := by simp [hpr]
            clear hB hpr
            go_wp2
            go_ret
            exact ⟨rfl, since_trans P6.out.pb.below BX.out⟩
        · clear hB
          have hjl : ¬ (j : Int) < (ar.length : Int) := by omega
          go_wp2
          go_ret
          exact ⟨rfl, since_trans P6.out.pb.below BX.out⟩
end Go.Proofs.YtablbagdnmbbfaaGreat

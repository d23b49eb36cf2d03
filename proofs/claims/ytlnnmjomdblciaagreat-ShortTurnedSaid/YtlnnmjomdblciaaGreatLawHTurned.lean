/- The walk of backstaylaw11.ShortTurned. -/
import Derived.Test.YtlnnmjomdblciaaGreatLaw11
import Derived.Test.YtlnnmjomdblciaaGreatShortV
import Derived.Test.YtlnnmjomdblciaaGreatInts
import Derived.Test.YtlnnmjomdblciaaGreatRegs
import Derived.Test.YtlnnmjomdblciaaGreatApi
namespace Go.Proofs.YtlnnmjomdblciaaGreat
set_option linter.unusedSimpArgs false
set_option linter.unusedVariables false
open Go.RowKit

/-- The rows of a list of ways. -/
theorem rows_of {w4 : World} {n0 B : Nat} {Z : List WayZ} {A : Option Addr} {c : Nat} {L : List (List Nat)} (hW : WaysW n0 B w4 Z A c) (hZ : Z.map (·.1) = L) : ∀ (i : Nat) (q : List Nat) (Aq : Option Addr) (cq : Nat), Z[i]? = some (q, Aq, cq) → (∃ bz oz, A = some ⟨bz, oz, none⟩ ∧ ∀ wy, Below w4.heap.size w4 wy → wy.cell? ⟨bz, oz + i, none⟩ = some (.slice Aq q.length cq)) ∧ (∀ wy, Below w4.heap.size w4 wy → Rd wy wy.heap.size 1 Aq q.length (nats q)) ∧ q.length ≤ cq ∧ cq ≤ maxLen ∧ q ∈ L ∧ q.length ≤ 12 ∧ L[i]? = some q := by
  intro i q Aq cq hz
  have hzm := List.mem_of_getElem? hz
  obtain ⟨bz, oz, eA, hbz, hcz⟩ := hW.row.rd.one (show (Z.map wayV)[i]? = some (wayV (q, Aq, cq)) from by rw [List.getElem?_map, hz]; rfl)
  have hE := (hW.each _ hzm).2.2.2
  exact ⟨⟨bz, oz, eA, fun wy hb => (hb.cell (p := ⟨bz, _, none⟩) hbz).trans hcz⟩, fun wy hb => (hE.rd.below hb (Nat.le_refl _)).more hb.size, hE.2.1, hE.2.2.1, by rw [← hZ]; exact List.mem_map.2 ⟨_, hzm, rfl⟩, (hW.each _ hzm).2.1, by rw [← hZ, List.getElem?_map, hz]; rfl⟩
theorem dist_net {w : World} {B : Nat} {p : Net} {h : Hd} (n : NetR w B p h) : NetR w B (distN p) h := ⟨n.nodes, n.links, n.dlen, n.dests, n.origins, n.checks⟩
attribute [local go_sem ↓] Go.wp_at_zero Go.wp_at_succ
set_option maxRecDepth 100000 in
set_option maxHeartbeats 4000000 in
theorem shortTurned_walk (a0 : Option Addr) (c0 : Nat) (l0 : List Int) (n1 n2 n3 : Int) (w : World) (h0 : InRow w a0 c0 l0) (k1 : In64 n1) (k2 : In64 n2) (k3 : In64 n3) :
    Calls Tryz.prog 6 #[.slice a0 l0.length c0, .int .i64 n1, .int .i64 n2, .int .i64 n3] w fun e w' => e = .returned (.bool true) ∧ Below w.heap.size w w' := by
  have I1 := Lib.hid k1
  have I2 := Lib.hid k2
  have I3 := Lib.hid k3
  have H0 := Lib.hid h0
  clear k1 k2 k3 h0
  go_enter Tryz.func6, Tryz.ntmps6
  go_wp2_with fail
  refine (awake11 _).mono ?_
  rintro e w1 ⟨rfl, hb1⟩
  have J0 := Lib.hid (H0.out.call hb1)
  have B1 := Lib.hid hb1
  clear hb1
  go_wp2_with fail
  refine (net_any _ _ l0 c0 J0.out.len J0.out.le J0.out.rd J0.out.in64).mono ?_
  rintro e w2 ⟨p, h, rfl, hok, hown, hb⟩
  have OK := Lib.hid (dist_ok hok)
  have P0 : Hid (NW w (w2.alloc (.cells #[.int .i64 1, .int .i64 0, .int .i64 p.k, .slice h.an p.nodes.length h.cn, .slice h.al p.links.length h.cl, .slice h.ad p.dests.length h.cd, .slice h.ac p.checks.length h.cc] 31)) w2.heap.size (distN p) h []) := Lib.hid ⟨PB.begin (since_trans B1.out hb) (dist_net hown.net), by intro z hz; cases hz⟩
  clear hb hown hok J0
  unfold netV netVal
  go_upto_region 5 with fail
  generalize (w2.alloc (.cells #[.int .i64 1, .int .i64 0, .int .i64 p.k, .slice h.an p.nodes.length h.cn, .slice h.al p.links.length h.cl, .slice h.ad p.dests.length h.cd, .slice h.ac p.checks.length h.cc] 31)) = w3 at *
  generalize w2.heap.size = bp at *
  have HPR : Hid ((distN p).proto ≠ 2) := Lib.hid (show (1 : Int) ≠ 2 by decide)
  have GD := Lib.hid OK.out.good
  generalize distN p = q at *
  have NG := Lib.hid GD.out.netG
  have hn2 := OK.out.n.1
  have hn7 := OK.out.n.2
  obtain ⟨g0, g1, g2, g3, g4, g5, g6⟩ := P0.out.pb.all
  clear B1
  go_wp2_with fail
  refine (pick11_any n1 512 _ I1.out (by omega) (by omega)).mono ?_
  rintro e w' ⟨rfl, rfl⟩
  generalize pickV n1 512 = x at *
  go_wp2_with fail
  refine (pick11_any n2 q.nodes.length _ I2.out (by omega) (by omega)).mono ?_
  rintro e w' ⟨rfl, rfl⟩
  have hn := pickV_in (c := n2) (n := q.nodes.length) (by omega)
  generalize pickV n2 q.nodes.length = a at *
  go_wp2_with fail
  refine (pick11_any n3 q.nodes.length _ I3.out (by omega) (by omega)).mono ?_
  rintro e w' ⟨rfl, rfl⟩
  have hm := pickV_in (c := n3) (n := q.nodes.length) (by omega)
  generalize pickV n3 q.nodes.length = b at *
  obtain ⟨a, rfl⟩ : ∃ k : Nat, a = k := ⟨a.toNat, by omega⟩
  obtain ⟨b, rfl⟩ : ∃ k : Nat, b = k := ⟨b.toNat, by omega⟩
  have haN : a < q.nodes.length := by omega
  have hbN : b < q.nodes.length := by omega
  clear hn hm
  go_wp2_with fail
  refine (ways_any q h x a b _ P0.out.pb.net GD.out hn7 haN hbN).mono ?_
  rintro e w4 ⟨Z, A, c, rfl, hZ, hW, hb4⟩
  have P4 := Lib.hid (P0.out.call hb4)
  have R1 := Lib.hid (rows_of hW hZ)
  have HZ := Lib.hid hZ
  have hzl := waysN_len q x a b (by omega) hn7
  rw [← hZ, List.length_map] at hzl
  clear hZ hW hb4 g0 g1 g2 g3 g4 g5 g6
  obtain ⟨g0, g1, g2, g3, g4, g5, g6⟩ := P4.out.pb.all
  go_wp2_with fail
  refine (ways_any q h x b a _ P4.out.pb.net GD.out hn7 hbN haN).mono ?_
  rintro e w5 ⟨Y, A2, c2, rfl, hY, hW, hb5⟩
  have P5 := Lib.hid (P4.out.call hb5)
  have B45 := Lib.hid hb5
  have R2 := Lib.hid (rows_of hW hY)
  have HY := Lib.hid hY
  have hyz : Y.length = Z.length := by
    have h1 := turned_len (f := x) GD.out haN hbN
    rw [← HZ.out, ← hY, List.length_map, List.length_map] at h1
    exact h1.symm
  clear hY hW hb5 g0 g1 g2 g3 g4 g5 g6
  rw [hyz]
  have HYZ := Lib.hid hyz
  clear hyz
  obtain ⟨g0, g1, g2, g3, g4, g5, g6⟩ := P5.out.pb.all
  go_wp2_with fail
  refine (hops_any q h x a b _ P5.out.pb.net GD.out).mono ?_
  rintro e w6 ⟨d, rfl, hd, hb6⟩
  have P6 := Lib.hid (P5.out.call hb6)
  have B56 := Lib.hid hb6
  have B46 := Lib.hid (since_trans B45.out hb6)
  have hd' : Gr.IsHops (Adj q.links x) a b d := by
    rw [show placeB (a : Int) q.nodes.length = true from by simp [placeB]; omega, show placeB (b : Int) q.nodes.length = true from by simp [placeB]; omega] at hd
    simpa using hd.1
  obtain ⟨hle, hz0⟩ := turned_least GD.out haN hd'
  rw [← HZ.out] at hle hz0
  rw [List.length_map] at hz0
  have hdl : -1 ≤ d := by
    rcases hd' with ⟨e, -⟩ | ⟨n, e, -⟩ <;> omega
  have HLE := Lib.hid hle
  obtain ⟨zn, hzn⟩ : ∃ zn, Z.length = zn := ⟨_, rfl⟩
  have HZN := Lib.hid hzn
  rw [hzn] at hzl hz0 ⊢
  clear hd hd' hle hb6 hzn g0 g1 g2 g3 g4 g5 g6
  by_cases hneg : d < 0
  · obtain rfl : zn = 0 := hz0.2 hneg
    obtain rfl : d = -1 := by omega
    have BF := Lib.hid P6.out.pb.below
    clear hneg hz0
    go_wp2_with fail
    refine wp_loop_rounds 1 ?_
    rw [rounds_succ]
    go_wp2
    go_ret
    exact ⟨rfl, BF.out⟩
  · have hzp : ¬ zn = 0 := fun e => hneg (hz0.1 e)
    have hz1 : (zn == 0) = false := by simp; omega
    have hz2 : ((zn : Int) == 0) = false := by simp; omega
    have hd1 : decide (d < 0) = false := by simp; omega
    clear hz0
    go_wp2_with fail
    obtain ⟨i0, hi0, hz0, hs0, hb0⟩ := info_parts Tryz.info_int
    go_loopw [18, 19] (fun sl si wx => ∃ i : Nat, i ≤ zn ∧ si = .int .i64 i ∧ sl = .int .i64 (((Z.map (·.1)).take i).foldl leastS (-1)) ∧ Below w6.heap.size w6 wx) (fun _ si _ => zn - (intOf si).toNat)
    case atStart => exact ⟨0, Nat.zero_le _, rfl, by simp, Below.refl _ _⟩
    case round =>
      obtain ⟨i, hi, rfl, rfl, hB⟩ := hrel
      have BB := Lib.hid hB
      by_cases hlt : i < zn
      · obtain ⟨⟨r, Aq, cq⟩, hz⟩ : ∃ z, Z[i]? = some z := ⟨_, List.getElem?_eq_getElem (by have := HZN.out; omega)⟩
        obtain ⟨⟨bz, oz, eA, hcz⟩, hrd, hqc, hcm, hqm, hq12, -⟩ := R1.out i r Aq cq hz
        subst eA
        have hway := (mem_waysN GD.out.lksOk haN r).1 hqm
        have hm0' : 0 < r.length := by obtain ⟨t, e⟩ := hway.head; rw [e]; simp
        obtain ⟨bq, oq, eq, hbq, hcq⟩ := (hrd w4 (Below.refl _ _)).2 hm0'
        subst eq
        obtain ⟨m, hm⟩ : ∃ m, r.length = m := ⟨_, rfl⟩
        rw [hm] at hm0' hqc hq12
        obtain ⟨mp, hmp⟩ : ∃ mp, m = mp + 1 := ⟨m - 1, by omega⟩
        have HM := Lib.hid hm
        have HMP := Lib.hid hmp
        have HCZ : Hid (∀ wy, Below w6.heap.size w6 wy → wy.cell? ⟨bz, oz + i, none⟩ = some (.slice (some ⟨bq, oq, none⟩) m cq)) := Lib.hid (fun wy hb => by have := hcz wy (since_trans B46.out hb); rwa [hm] at this)
        have HCQ : Hid (∀ wy, Below w6.heap.size w6 wy → ∀ (jj y : Nat), r[jj]? = some y → wy.cell? ⟨bq, oq + jj, none⟩ = some (.int .i64 (y : Int))) := Lib.hid (fun wy hb jj y hy => ((since_trans B46.out hb).cell (p := ⟨bq, _, none⟩) hbq).trans (hcq jj _ (nats_at hy)))
        have HTK : Hid (((Z.map (·.1)).take (i + 1)).foldl leastS (-1) = leastS (((Z.map (·.1)).take i).foldl leastS (-1)) r) := Lib.hid (by rw [List.take_add_one, List.getElem?_map, hz]; simp)
        have HRI : Hid (r.reverse ∈ waysN q x b a) := Lib.hid (turned_in GD.out haN hbN hqm)
        have HWQ : Hid (WayQ q x r) := Lib.hid ⟨b, a, hbN, haN, hway⟩
        have HWR : Hid (WayQ q x r.reverse) := Lib.hid ⟨a, b, haN, hbN, hway.rev Adj.symm⟩
        have HRV : Hid (wayR q x r.reverse = wayR q x r) := Lib.hid (dist_rev NG.out GD.out.lksOk GD.out.pairs HPR.out hbN haN hway)
        have hm00 : 0 < m := hm0'
        have hi0' : (0 : Int) ≤ (i : Int) := by omega
        have hiZ : (i : Int) < (zn : Int) := by omega
        have hwm : IntKind.i64.wrap ((m : Int) - 1) = (mp : Int) := by rw [IntKind.wrap_i64]; omega
        have z1 := HCZ.out _ hB
        have HRD := Lib.hid (fun wy (hb : Below w6.heap.size w6 wy) => hrd wy (since_trans B46.out hb))
        generalize ((Z.map (·.1)).take i).foldl leastS (-1) = ls at *
        clear hz hcz hrd hqm hway hcq hbq hm hmp
        go_wp2_with fail
        go_loopw [20, 21] (fun sb sk wx => ∃ (j : Nat) (s : Int) (Ab : Option Addr) (cb : Nat), sk = .int .i64 s ∧ s + j + 1 = m ∧ 0 ≤ s + 1 ∧ sb = .slice Ab j cb ∧ Own wx w6.heap.size 3 1 Ab j cb (nats (r.reverse.take j)) ∧ Below w6.heap.size w6 wx) (fun _ sk _ => (intOf sk + 1).toNat)
        case atStart => exact ⟨0, mp, none, 0, rfl, by have := HMP.out; omega, by omega, rfl, by simpa [nats] using Own.nil _ _ _ _, BB.out⟩
        case round =>
          obtain ⟨j, s, Ab, cb, rfl, hsj, hs1, rfl, hown, hBb⟩ := hrel
          have BO := Lib.hid hBb
          have OO := Lib.hid hown
          have HSJ := Lib.hid hsj
          by_cases hsn : 0 ≤ s
          · obtain ⟨t, rfl⟩ : ∃ t : Nat, s = t := ⟨s.toNat, by omega⟩
            obtain ⟨y, hy⟩ : ∃ y, r[t]? = some y := ⟨_, List.getElem?_eq_getElem (by have := HM.out; omega)⟩
            have HTJ : Hid (nats (r.reverse.take (j + 1)) = nats (r.reverse.take j) ++ [.int .i64 (y : Int)]) := Lib.hid (by
              have h1 : r.reverse[j]? = some y := by
                rw [List.getElem?_reverse (by have := HM.out; omega)]
                rw [show r.length - 1 - j = t from by have := HM.out; omega]
                exact hy
              rw [List.take_add_one, h1]; simp [nats])
            have x1 := HCQ.out _ hBb t y hy
            have z1 := HCZ.out _ hBb
            have htm : (t : Int) < (m : Int) := by omega
            have htm2 : t < m := by omega
            have hjm : j ≤ 12 := by omega
            have hwk : IntKind.i64.wrap ((t : Int) - 1) = (t : Int) - 1 := by rw [IntKind.wrap_i64]; omega
            have hszs := hBb.size
            clear hy hsj hown
            go_wp2_with ((at_builtin; refine wpList_app _ rfl _ _ 22 rfl w6.heap.size 3 i0 (.int .i64 0) 1 8 Tryz.underlying22 hi0 hz0 hs0 hb0 rfl (by decide) _ _ _ (nats (r.reverse.take j)) rfl (by exact OO.out.alloc _) _ 1 _ [.int .i64 (y : Int)] rfl (Rd.new (by simp) rfl) (by intro u hu; simp at hu; subst hu; rfl) (by unfold maxLen; omega) (by omega) (by simp; omega) ?_; intro A2 c2 w2 hown2 hgrow2 hblk2 _; (have O6 := Lib.hid hown2; have B6 := Lib.hid ((BO.out.alloc (by omega) _).grown hgrow2 (by simp; omega) (fun g hg => OO.out.from_ g hg)); clear hown2 hgrow2 hblk2)))
            go_roundw
            case rel => exact ⟨j + 1, (t : Int) - 1, A2, c2, by go_num, by have := HSJ.out; omega, by omega, by first | rfl | skip, by rw [HTJ.out]; exact O6.out, B6.out⟩
            case measure => simp [intOf]
          · obtain rfl : s = -1 := by omega
            have hjm : j = m := by have := HSJ.out; omega
            have h1 := OO.out
            rw [hjm, List.take_of_length_le (by simp; have := HM.out; omega)] at h1
            have OR := Lib.hid h1
            clear OO hown h1 HSJ hsj
            subst hjm
            generalize wr = w7 at *
            clear hBb hs1
            go_wp2_with fail
            go_loopw [22, 23] (fun so sk wx => ∃ k : Nat, k ≤ zn ∧ sk = .int .i64 k ∧ so = .bool (((Y.map (·.1)).take k).any fun y => decide (y = r.reverse)) ∧ Below w7.heap.size w7 wx) (fun _ sk _ => zn - (intOf sk).toNat)
            case atStart => exact ⟨0, Nat.zero_le _, rfl, by simp, Below.refl _ _⟩
            case round =>
              obtain ⟨k, hk, rfl, rfl, hBk⟩ := hrel
              have BK := Lib.hid hBk
              by_cases hltk : k < zn
              · obtain ⟨⟨y, Ay, cy⟩, hy⟩ : ∃ z, Y[k]? = some z := ⟨_, List.getElem?_eq_getElem (by have := HZN.out; have := HYZ.out; omega)⟩
                obtain ⟨⟨by_, oy, eY, hcy⟩, hry, -, -, -, hy12, -⟩ := R2.out k y Ay cy hy
                subst eY
                have HT := Lib.hid (show ((Y.map (·.1)).take (k + 1)).any (fun y => decide (y = r.reverse)) = (((Y.map (·.1)).take k).any (fun y => decide (y = r.reverse)) || decide (y = r.reverse)) from by rw [List.take_add_one, List.getElem?_map, hy]; simp)
                have y1 := hcy _ (since_trans B56.out (since_trans BO.out hBk))
                obtain ⟨my, hmy⟩ : ∃ my, y.length = my := ⟨_, rfl⟩
                rw [hmy] at y1 hy12
                have CI : Hid (∀ wy, Below w7.heap.size w7 wy → Calls Tryz.prog 29 #[.slice Ay my cy, .slice Ab j cb] wy fun e w' => e = .returned (.bool (decide (y = r.reverse))) ∧ Below wy.heap.size wy w') := Lib.hid (fun wy hb => by
                  have h2 := hry wy (since_trans B56.out (since_trans BO.out hb))
                  rw [hmy] at h2
                  exact refInts_any y r.reverse my j hmy (by simp; exact HM.out) Ay Ab cy cb wy h2 ((OR.out.rd.below hb (Nat.le_refl _)).more hb.size) (by omega) (by omega))
                have hk0 : (0 : Int) ≤ (k : Int) := by omega
                have hkz : (k : Int) < (Y.length : Int) := by have := HZN.out; have := HYZ.out; omega
                have hkz2 : (k : Int) < (zn : Int) := by omega
                clear hy hcy hry hmy
                cases hany : ((Y.map (·.1)).take k).any (fun y => decide (y = r.reverse)) with
                | true =>
                  rw [hany] at HT
                  clear hany
                  go_wp2
                  go_roundw
                  case rel => exact ⟨k + 1, by omega, by go_num, by rw [HT.out]; rfl, BK.out⟩
                  case measure => simp [intOf]; omega
                | false =>
                  rw [hany, Bool.false_or] at HT
                  clear hany
                  go_wp2_with (go_at_call 29; refine (CI.out _ hBk).mono ?_; rintro e w8 ⟨rfl, hb8⟩; have B8 := Lib.hid (since_trans BK.out hb8))
                  go_roundw
                  case rel => exact ⟨k + 1, by omega, by go_num, by rw [HT.out], B8.out⟩
                  case measure => simp [intOf]; omega
              · have hany : ((Y.map (·.1)).take k).any (fun y => decide (y = r.reverse)) = true := by
                  rw [List.take_of_length_le (by rw [List.length_map]; have := HZN.out; have := HYZ.out; omega)]
                  refine List.any_eq_true.2 ⟨r.reverse, by rw [HY.out]; exact HRI.out, by simp⟩
                rw [hany]
                clear hany
                have CLB : Hid (∀ wy, Below w7.heap.size w7 wy → Calls Tryz.prog 25 #[.agg #[.int .i64 q.proto, .int .i64 q.cap, .int .i64 q.k, .slice h.an q.nodes.length h.cn, .slice h.al q.links.length h.cl, .slice h.ad q.dests.length h.cd, .slice h.ac q.checks.length h.cc], .int .i64 x, .slice Ab j cb] wy (OrPost (wayR q x r) wy)) := Lib.hid (fun wy hb => by
                  have h2 := along_any q h x r.reverse Ab cb wy (P6.out.call (since_trans BO.out hb)).pb.net GD.out (by rw [show r.reverse.length = j from by simp; exact HM.out]; exact (OR.out.rd.below hb (Nat.le_refl _)).more hb.size) (by rw [show r.reverse.length = j from by simp; exact HM.out]; exact OR.out.2.1) OR.out.2.2.1 HWR.out
                  rw [show r.reverse.length = j from by simp; exact HM.out, HRV.out] at h2
                  exact h2)
                have CLR : Hid (∀ wy, Below w7.heap.size w7 wy → Calls Tryz.prog 25 #[.agg #[.int .i64 q.proto, .int .i64 q.cap, .int .i64 q.k, .slice h.an q.nodes.length h.cn, .slice h.al q.links.length h.cl, .slice h.ad q.dests.length h.cd, .slice h.ac q.checks.length h.cc], .int .i64 x, .slice (some ⟨bq, oq, none⟩) j cq] wy (OrPost (wayR q x r) wy)) := Lib.hid (fun wy hb => by
                  have h2 := along_any q h x r (some ⟨bq, oq, none⟩) cq wy (P6.out.call (since_trans BO.out hb)).pb.net GD.out (HRD.out wy (since_trans BO.out hb)) (by rw [HM.out]; exact hqc) hcm HWQ.out
                  rwa [HM.out] at h2)
                have HC28 : Hid (∀ wy, Below w7.heap.size w7 wy → (wy.cell? ⟨bp, 0, none⟩ = some (.int .i64 q.proto) ∧ wy.cell? ⟨bp, 1, none⟩ = some (.int .i64 q.cap) ∧ wy.cell? ⟨bp, 2, none⟩ = some (.int .i64 q.k) ∧ wy.cell? ⟨bp, 3, none⟩ = some (.slice h.an q.nodes.length h.cn) ∧ wy.cell? ⟨bp, 4, none⟩ = some (.slice h.al q.links.length h.cl) ∧ wy.cell? ⟨bp, 5, none⟩ = some (.slice h.ad q.dests.length h.cd) ∧ wy.cell? ⟨bp, 6, none⟩ = some (.slice h.ac q.checks.length h.cc)) ∧ wy.cell? ⟨bz, oz + i, none⟩ = some (.slice (some ⟨bq, oq, none⟩) j cq)) := Lib.hid (fun wy hb => ⟨(P6.out.call (since_trans BO.out hb)).pb.all, HCZ.out wy (since_trans BO.out hb)⟩)
                generalize wayR q x r = rt at *
                have hBd := below_drew hBk
                go_upto_region 28 with fail
                refine wp_region_held_drew (S := (fun wy => (wy.cell? ⟨bp, 0, none⟩ = some (.int .i64 q.proto) ∧ wy.cell? ⟨bp, 1, none⟩ = some (.int .i64 q.cap) ∧ wy.cell? ⟨bp, 2, none⟩ = some (.int .i64 q.k) ∧ wy.cell? ⟨bp, 3, none⟩ = some (.slice h.an q.nodes.length h.cn) ∧ wy.cell? ⟨bp, 4, none⟩ = some (.slice h.al q.links.length h.cl) ∧ wy.cell? ⟨bp, 5, none⟩ = some (.slice h.ad q.dests.length h.cd) ∧ wy.cell? ⟨bp, 6, none⟩ = some (.slice h.ac q.checks.length h.cc)) ∧ wy.cell? ⟨bz, oz + i, none⟩ = some (.slice (some ⟨bq, oq, none⟩) j cq))) (by kernel_rfl) (HC28.out _ hBd) (fun hHeld0 => ?_)
                refine take_list (i := 0) (v := ?_) rfl (by kernel_rfl) (by kernel_rfl) (by kernel_rfl) (fun _ _ _ h => h) (Or.inl ⟨by rfl, ?_⟩) (by assumption) ?_
                rotate_left
                · (intro w hSw; (try dsimp only at hSw); go_simp; try (with_reducible rfl))
                try simp only [Act.put, List.setIfInBounds_toArray, List.set_cons_zero, List.set_cons_succ]
                refine take_list (i := 1) (v := ?_) rfl (by kernel_rfl) (by kernel_rfl) (by kernel_rfl) (fun _ _ _ h => h) (Or.inl ⟨by rfl, ?_⟩) (by assumption) ?_
                rotate_left
                · (intro w hSw; (try dsimp only at hSw); go_simp; try (with_reducible rfl))
                try simp only [Act.put, List.setIfInBounds_toArray, List.set_cons_zero, List.set_cons_succ]
                refine take_list (i := 2) (v := ?_) rfl (by kernel_rfl) (by kernel_rfl) (by kernel_rfl) (fun _ _ _ h => h) (Or.inl ⟨by rfl, ?_⟩) (by assumption) ?_
                rotate_left
                · (intro w hSw; (try dsimp only at hSw); go_simp; try (with_reducible rfl))
                try simp only [Act.put, List.setIfInBounds_toArray, List.set_cons_zero, List.set_cons_succ]
                refine take_list (i := 3) (v := ?_) rfl (by kernel_rfl) (by kernel_rfl) (by kernel_rfl) (fun _ _ _ h => h) (Or.inl ⟨by rfl, ?_⟩) (by assumption) ?_
                rotate_left
                · (intro w hSw; (try dsimp only at hSw); go_simp; try (with_reducible rfl))
                try simp only [Act.put, List.setIfInBounds_toArray, List.set_cons_zero, List.set_cons_succ]
                refine take_list (i := 4) (v := ?_) rfl (by kernel_rfl) (by kernel_rfl) (by kernel_rfl) (fun _ _ _ h => h) (Or.inl ⟨by rfl, ?_⟩) (by assumption) ?_
                rotate_left
                · (intro w hSw; (try dsimp only at hSw); go_simp; try (with_reducible rfl))
                try simp only [Act.put, List.setIfInBounds_toArray, List.set_cons_zero, List.set_cons_succ]
                refine take_list (i := 5) (v := ?_) rfl (by kernel_rfl) (by kernel_rfl) (by kernel_rfl) (fun _ _ _ h => h) (Or.inl ⟨by rfl, ?_⟩) (by assumption) ?_
                rotate_left
                · (intro w hSw; (try dsimp only at hSw); go_simp; try (with_reducible rfl))
                try simp only [Act.put, List.setIfInBounds_toArray, List.set_cons_zero, List.set_cons_succ]
                refine take_list (i := 7) (v := ?_) rfl (by kernel_rfl) (by kernel_rfl) (by kernel_rfl) (fun _ _ _ h => h) (Or.inl ⟨by rfl, ?_⟩) (by assumption) ?_
                rotate_left
                · (intro w hSw; (try dsimp only at hSw); go_simp; try (with_reducible rfl))
                try simp only [Act.put, List.setIfInBounds_toArray, List.set_cons_zero, List.set_cons_succ]
                refine take_list (i := 8) (v := ?_) rfl (by kernel_rfl) (by kernel_rfl) (by kernel_rfl) (fun _ _ _ h => h) (Or.inl ⟨by rfl, ?_⟩) (by assumption) ?_
                rotate_left
                · (intro w hSw; (try dsimp only at hSw); go_simp; try (with_reducible rfl))
                try simp only [Act.put, List.setIfInBounds_toArray, List.set_cons_zero, List.set_cons_succ]
                refine take_list (i := 9) (v := ?_) rfl (by kernel_rfl) (by kernel_rfl) (by kernel_rfl) (fun _ _ _ h => h) (Or.inl ⟨by rfl, ?_⟩) (by assumption) ?_
                rotate_left
                · (intro w hSw; (try dsimp only at hSw); go_simp; try (with_reducible rfl))
                try simp only [Act.put, List.setIfInBounds_toArray, List.set_cons_zero, List.set_cons_succ]
                refine take_list (i := 10) (v := ?_) rfl (by kernel_rfl) (by kernel_rfl) (by kernel_rfl) (fun _ _ _ h => h) (Or.inl ⟨by rfl, ?_⟩) (by assumption) ?_
                rotate_left
                · (intro w hSw; (try dsimp only at hSw); go_simp; try (with_reducible rfl))
                try simp only [Act.put, List.setIfInBounds_toArray, List.set_cons_zero, List.set_cons_succ]
                refine take_list (i := 11) (v := ?_) rfl (by kernel_rfl) (by kernel_rfl) (by kernel_rfl) (fun _ _ _ h => h) (Or.inl ⟨by rfl, ?_⟩) (by assumption) ?_
                rotate_left
                · (intro w hSw; (try dsimp only at hSw); go_simp; try (with_reducible rfl))
                try simp only [Act.put, List.setIfInBounds_toArray, List.set_cons_zero, List.set_cons_succ]
                refine take_list (i := 12) (v := ?_) rfl (by kernel_rfl) (by kernel_rfl) (by kernel_rfl) (fun _ _ _ h => h) (Or.inl ⟨by rfl, ?_⟩) (by assumption) ?_
                rotate_left
                · (intro w hSw; (try dsimp only at hSw); go_simp; try (with_reducible rfl))
                try simp only [Act.put, List.setIfInBounds_toArray, List.set_cons_zero, List.set_cons_succ]
                refine wpAnyH_ready (rs := [6]) (by kernel_rfl) (by simp) ?_
                refine cons_list rfl (fun K hK => ?_) AllReadyH.nil
                go_simp
                (go_at_call 25; refine (CLB.out _ hBd).mono ?_; rintro e w8 ⟨A8, c8, rfl, ho8, hb8⟩; have hB8 := since_trans hBd hb8; unfold rtV)
                refine hK.out _ _ ((by first | exact HC28.out _ hB10 | exact HC28.out _ hB9 | exact HC28.out _ hB8 | exact HC28.out _ hBd)) (fun hHeld1 => ?_)
                clear hK K hHeld0
                try simp only [Act.put, List.setIfInBounds_toArray, List.set_cons_zero, List.set_cons_succ]
                refine wpAnyH_ready (rs := [13]) (by kernel_rfl) (by simp) ?_
                refine cons_list rfl (fun K hK => ?_) AllReadyH.nil
                go_simp
                (go_at_call 25; refine (CLR.out _ hB8).mono ?_; rintro e w9 ⟨A9, c9, rfl, ho9, hb9⟩; have hB9 := since_trans hB8 hb9; unfold rtV)
                refine hK.out _ _ ((by first | exact HC28.out _ hB10 | exact HC28.out _ hB9 | exact HC28.out _ hB8 | exact HC28.out _ hBd)) (fun hHeld2 => ?_)
                clear hK K hHeld1
                try simp only [Act.put, List.setIfInBounds_toArray, List.set_cons_zero, List.set_cons_succ]
                refine wpAnyH_ready (rs := [14]) (by kernel_rfl) (by simp) ?_
                refine cons_list rfl (fun K hK => ?_) AllReadyH.nil
                go_simp
                (go_at_call 14; refine (refSame_any rt rt A8 A9 c8 c9 _ ((ho8.call hb9).rt _ _) (ho9.rt _ _)).mono ?_; rintro e w10 ⟨rfl, hb10⟩; have hB10 := since_trans hB9 hb10; rw [show decide (rt = rt) = true from decide_eq_true rfl])
                refine hK.out _ _ ((by first | exact HC28.out _ hB10 | exact HC28.out _ hB9 | exact HC28.out _ hB8 | exact HC28.out _ hBd)) (fun hHeld3 => ?_)
                clear hK K hHeld2
                try simp only [Act.put, List.setIfInBounds_toArray, List.set_cons_zero, List.set_cons_succ]
                refine take_list (i := 15) (v := ?_) rfl (by kernel_rfl) (by kernel_rfl) (by kernel_rfl) (fun _ _ _ h => h) (Or.inl ⟨by rfl, ?_⟩) (by assumption) ?_
                rotate_left
                · (intro w hSw; (try dsimp only at hSw); go_simp; try (with_reducible rfl))
                try simp only [Act.put, List.setIfInBounds_toArray, List.set_cons_zero, List.set_cons_succ]
                refine take_list (i := 16) (v := ?_) rfl (by kernel_rfl) (by kernel_rfl) (by kernel_rfl) (fun _ _ _ h => h) (Or.inl ⟨by rfl, ?_⟩) (by assumption) ?_
                rotate_left
                · (intro w hSw; (try dsimp only at hSw); go_simp; try (with_reducible rfl))
                try simp only [Act.put, List.setIfInBounds_toArray, List.set_cons_zero, List.set_cons_succ]
                refine wpAnyH_done (by kernel_rfl) ?_ _
                clear hHeld3
                have BZ := Lib.hid (since_trans BO.out hB10)
                have z2 := (HC28.out _ hB10).2
                have HLS : Hid (leastS ls r = if ls < 0 ∨ (mp : Int) < ls then (mp : Int) else ls) := Lib.hid (by
                  unfold leastS
                  rw [show (r.length : Int) - 1 = (mp : Int) from by have := HM.out; have := HMP.out; omega])
                clear hB8 hB9 hB10 hb8 hb9 hb10 ho8 ho9 hBd hBk
                try dsimp only
                by_cases c1 : ls < 0
                · have e1 : decide (ls < 0) = true := decide_eq_true c1
                  go_wp2
                  go_roundw
                  case rel => exact ⟨i + 1, by omega, by go_num, by rw [HTK.out, HLS.out, if_pos (.inl c1)], BZ.out⟩
                  case measure => simp [intOf]; omega
                · have e1 : decide (ls < 0) = false := decide_eq_false c1
                  by_cases c2' : (mp : Int) < ls
                  · have e2 : decide ((mp : Int) < ls) = true := decide_eq_true c2'
                    go_wp2
                    go_roundw
                    case rel => exact ⟨i + 1, by omega, by go_num, by rw [HTK.out, HLS.out, if_pos (.inr c2')], BZ.out⟩
                    case measure => simp [intOf]; omega
                  · have e2 : decide ((mp : Int) < ls) = false := decide_eq_false c2'
                    go_wp2
                    go_roundw
                    case rel => exact ⟨i + 1, by omega, by go_num, by rw [HTK.out, HLS.out, if_neg (by omega)], BZ.out⟩
                    case measure => simp [intOf]; omega
      · have hiz : i = zn := by omega
        have BF := Lib.hid (P6.out.call hB).pb.below
        rw [hiz, List.take_of_length_le (by rw [List.length_map]; have := HZN.out; omega), HLE.out]
        clear hB hiz
        go_wp2
        go_ret
        exact ⟨by first | rfl | simp, BF.out⟩
end Go.Proofs.YtlnnmjomdblciaaGreat

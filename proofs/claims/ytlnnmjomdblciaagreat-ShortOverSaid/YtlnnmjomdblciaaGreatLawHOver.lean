/- The walk of backstaylaw11.ShortOver. -/
import Derived.Test.YtlnnmjomdblciaaGreatLaw11
import Derived.Test.YtlnnmjomdblciaaGreatRef7v
import Derived.Test.YtlnnmjomdblciaaGreatRegs
namespace Go.Proofs.YtlnnmjomdblciaaGreat
set_option linter.unusedSimpArgs false
set_option linter.unusedVariables false
open Go.RowKit

attribute [local go_sem ↓] Go.wp_at_zero Go.wp_at_succ
set_option maxRecDepth 100000 in
set_option maxHeartbeats 1000000 in
theorem shortOver_walk (a0 : Option Addr) (c0 : Nat) (l0 : List Int) (n1 n2 n3 : Int) (w : World) (h0 : InRow w a0 c0 l0) (k1 : In64 n1) (k2 : In64 n2) (k3 : In64 n3) :
    Calls Tryz.prog 5 #[.slice a0 l0.length c0, .int .i64 n1, .int .i64 n2, .int .i64 n3] w fun e w' => e = .returned (.bool true) ∧ Below w.heap.size w w' := by
  have I1 := Lib.hid k1
  have I2 := Lib.hid k2
  have I3 := Lib.hid k3
  clear k1 k2 k3
  have H0 := Lib.hid h0
  clear h0
  go_enter Tryz.func5, Tryz.ntmps5
  go_wp2_with fail
  refine (awake11 _).mono ?_
  rintro e w1 ⟨rfl, hb1⟩
  have J0 := Lib.hid (H0.out.call hb1)
  have B1 := Lib.hid hb1
  clear hb1
  go_wp2_with fail
  refine (net_any _ _ l0 c0 J0.out.len J0.out.le J0.out.rd J0.out.in64).mono ?_
  rintro e w2 ⟨p, h, rfl, hok, hown, hb⟩
  have B2 := Lib.hid (since_trans B1.out hb)
  have OK := Lib.hid hok
  have GD := Lib.hid hok.good
  have NG := Lib.hid hok.good.netG
  have P0 : Hid (NW w (w2.alloc (.cells #[.int .i64 p.proto, .int .i64 p.cap, .int .i64 p.k, .slice h.an p.nodes.length h.cn, .slice h.al p.links.length h.cl, .slice h.ad p.dests.length h.cd, .slice h.ac p.checks.length h.cc] 31)) w2.heap.size p h []) := Lib.hid ⟨PB.begin B2.out hown.net, by intro z hz; cases hz⟩
  have hn2 := hok.n.1
  have hn7 := hok.n.2
  have hl9 := hok.l9
  clear hb hown hok J0
  unfold netV netVal
  go_upto_region 3 with fail
  generalize (w2.alloc (.cells #[.int .i64 p.proto, .int .i64 p.cap, .int .i64 p.k, .slice h.an p.nodes.length h.cn, .slice h.al p.links.length h.cl, .slice h.ad p.dests.length h.cd, .slice h.ac p.checks.length h.cc] 31)) = w3 at *
  generalize w2.heap.size = bp at *
  clear B1 B2
  obtain ⟨g0, g1, g2, g3, g4, g5, g6⟩ := P0.out.pb.all
  go_wp2_with fail
  refine (pick11_any n1 512 _ I1.out (by omega) (by omega)).mono ?_
  rintro e w' ⟨rfl, rfl⟩
  generalize pickV n1 512 = x at *
  have hn := pickV_in (c := n2) (n := p.nodes.length) (by omega)
  have hm := pickV_in (c := n3) (n := p.nodes.length) (by omega)
  have CPA : Hid (∀ wy, Calls Tryz.prog 22 #[.int .i64 n2, .int .i64 (p.nodes.length : Int)] wy fun e w' => e = .returned (.int .i64 (pickV n2 p.nodes.length)) ∧ wy = w') := Lib.hid (fun wy => pick11_any n2 p.nodes.length wy I2.out (by omega) (by omega))
  have CPB : Hid (∀ wy, Calls Tryz.prog 22 #[.int .i64 n3, .int .i64 (p.nodes.length : Int)] wy fun e w' => e = .returned (.int .i64 (pickV n3 p.nodes.length)) ∧ wy = w') := Lib.hid (fun wy => pick11_any n3 p.nodes.length wy I3.out (by omega) (by omega))
  generalize pickV n2 p.nodes.length = a at *
  generalize pickV n3 p.nodes.length = b at *
  obtain ⟨a, rfl⟩ : ∃ k : Nat, a = k := ⟨a.toNat, by omega⟩
  obtain ⟨b, rfl⟩ : ∃ k : Nat, b = k := ⟨b.toNat, by omega⟩
  have haN : a < p.nodes.length := by omega
  have hbN : b < p.nodes.length := by omega
  have CW : Hid (∀ wy, Below w3.heap.size w3 wy → Calls Tryz.prog 23 #[.agg #[.int .i64 p.proto, .int .i64 p.cap, .int .i64 p.k, .slice h.an p.nodes.length h.cn, .slice h.al p.links.length h.cl, .slice h.ad p.dests.length h.cd, .slice h.ac p.checks.length h.cc], .int .i64 x, .int .i64 (a : Int), .int .i64 (b : Int)] wy fun e w' => WaysPost wy.heap.size (waysN p x a b) wy e w' ∧ Below w3.heap.size w3 w') := Lib.hid (fun wy hb => by
    refine (ways_any p h x a b wy (P0.out.call hb).pb.net GD.out hn7 haN hbN).mono ?_
    rintro e w' hw
    obtain ⟨Z, A, c, e1, e2, e3, e4⟩ := hw
    exact ⟨⟨Z, A, c, e1, e2, e3, e4⟩, since_trans hb e4⟩)
  have HC : Hid (∀ wy, Below w3.heap.size w3 wy → wy.cell? ⟨bp, 0, none⟩ = some (.int .i64 p.proto) ∧ wy.cell? ⟨bp, 1, none⟩ = some (.int .i64 p.cap) ∧ wy.cell? ⟨bp, 2, none⟩ = some (.int .i64 p.k) ∧ wy.cell? ⟨bp, 3, none⟩ = some (.slice h.an p.nodes.length h.cn) ∧ wy.cell? ⟨bp, 4, none⟩ = some (.slice h.al p.links.length h.cl) ∧ wy.cell? ⟨bp, 5, none⟩ = some (.slice h.ad p.dests.length h.cd) ∧ wy.cell? ⟨bp, 6, none⟩ = some (.slice h.ac p.checks.length h.cc)) := Lib.hid (fun wy hb => (P0.out.call hb).pb.all)
  clear hn hm
  go_upto_region 5 with fail
  have hBd := below_drew (Below.refl w3.heap.size w3)
  clear g0 g1 g2 g3 g4 g5 g6
  refine wp_region_held_drew (S := (fun wy => wy.cell? ⟨bp, 0, none⟩ = some (.int .i64 p.proto) ∧ wy.cell? ⟨bp, 1, none⟩ = some (.int .i64 p.cap) ∧ wy.cell? ⟨bp, 2, none⟩ = some (.int .i64 p.k) ∧ wy.cell? ⟨bp, 3, none⟩ = some (.slice h.an p.nodes.length h.cn) ∧ wy.cell? ⟨bp, 4, none⟩ = some (.slice h.al p.links.length h.cl) ∧ wy.cell? ⟨bp, 5, none⟩ = some (.slice h.ad p.dests.length h.cd) ∧ wy.cell? ⟨bp, 6, none⟩ = some (.slice h.ac p.checks.length h.cc))) (by kernel_rfl) (HC.out _ hBd) (fun hHeld0 => ?_)
  refine take_list (i := 0) (v := ?_) rfl (by kernel_rfl) (by kernel_rfl) (by kernel_rfl) (fun _ _ _ h => h) (Or.inl ⟨by rfl, ?_⟩) (by assumption) ?_
  rotate_left
  · (intro w hSw; (try dsimp only at hSw); go_simp; try (with_reducible rfl))
  try simp only [Act.put, List.setIfInBounds_toArray, List.set_cons_zero, List.set_cons_succ]
  refine take_list (i := 1) (v := ?_) rfl (by kernel_rfl) (by kernel_rfl) (by kernel_rfl) (fun _ _ _ h => h) (Or.inl ⟨by rfl, ?_⟩) (by assumption) ?_
  rotate_left
  · (intro w hSw; (try dsimp only at hSw); go_simp; try (with_reducible rfl))
  try simp only [Act.put, List.setIfInBounds_toArray, List.set_cons_zero, List.set_cons_succ]
  refine take_list (i := 2) (v := ?_) rfl (by kernel_rfl) (by kernel_rfl) (by kernel_rfl) (fun _ _ _ h => h) (Or.inl ⟨by rfl, ?_⟩) (by assumption) ?_
  rotate_left
  · (intro w hSw; (try dsimp only at hSw); go_simp; try (with_reducible rfl))
  try simp only [Act.put, List.setIfInBounds_toArray, List.set_cons_zero, List.set_cons_succ]
  refine take_list (i := 3) (v := ?_) rfl (by kernel_rfl) (by kernel_rfl) (by kernel_rfl) (fun _ _ _ h => h) (Or.inl ⟨by rfl, ?_⟩) (by assumption) ?_
  rotate_left
  · (intro w hSw; (try dsimp only at hSw); go_simp; try (with_reducible rfl))
  try simp only [Act.put, List.setIfInBounds_toArray, List.set_cons_zero, List.set_cons_succ]
  refine take_list (i := 5) (v := ?_) rfl (by kernel_rfl) (by kernel_rfl) (by kernel_rfl) (fun _ _ _ h => h) (Or.inl ⟨by rfl, ?_⟩) (by assumption) ?_
  rotate_left
  · (intro w hSw; (try dsimp only at hSw); go_simp; try (with_reducible rfl))
  try simp only [Act.put, List.setIfInBounds_toArray, List.set_cons_zero, List.set_cons_succ]
  refine take_list (i := 6) (v := ?_) rfl (by kernel_rfl) (by kernel_rfl) (by kernel_rfl) (fun _ _ _ h => h) (Or.inl ⟨by rfl, ?_⟩) (by assumption) ?_
  rotate_left
  · (intro w hSw; (try dsimp only at hSw); go_simp; try (with_reducible rfl))
  try simp only [Act.put, List.setIfInBounds_toArray, List.set_cons_zero, List.set_cons_succ]
  refine wpAnyH_ready (rs := [4]) (by kernel_rfl) (by simp) ?_
  refine cons_list rfl (fun K hK => ?_) AllReadyH.nil
  go_simp
  (go_at_call 22; refine (CPA.out _).mono ?_; rintro e wn ⟨rfl, rfl⟩)
  refine hK.out _ _ (HC.out _ (by repeat (first | assumption | (refine since_alloc ?_ _) | (refine below_drew ?_)))) (fun hHeld1 => ?_)
  clear hK K hHeld0
  try simp only [Act.put, List.setIfInBounds_toArray, List.set_cons_zero, List.set_cons_succ]
  refine wpAnyH_ready (rs := [7]) (by kernel_rfl) (by simp) ?_
  refine cons_list rfl (fun K hK => ?_) AllReadyH.nil
  go_simp
  (go_at_call 22; refine (CPB.out _).mono ?_; rintro e wn ⟨rfl, rfl⟩)
  refine hK.out _ _ (HC.out _ (by repeat (first | assumption | (refine since_alloc ?_ _) | (refine below_drew ?_)))) (fun hHeld2 => ?_)
  clear hK K hHeld1
  try simp only [Act.put, List.setIfInBounds_toArray, List.set_cons_zero, List.set_cons_succ]
  refine wpAnyH_ready (rs := [8]) (by kernel_rfl) (by simp) ?_
  refine cons_list rfl (fun K hK => ?_) AllReadyH.nil
  go_simp
  (go_at_call 23; refine (CW.out _ hBd).mono ?_; rintro e w4 ⟨⟨Z, A, c, rfl, hZ, hW, hb4⟩, hB4⟩)
  refine hK.out _ _ (HC.out _ (by repeat (first | assumption | (refine since_alloc ?_ _) | (refine below_drew ?_)))) (fun hHeld3 => ?_)
  clear hK K hHeld2
  try simp only [Act.put, List.setIfInBounds_toArray, List.set_cons_zero, List.set_cons_succ]
  refine take_list (i := 9) (v := ?_) rfl (by kernel_rfl) (by kernel_rfl) (by kernel_rfl) (fun _ _ _ h => h) (Or.inl ⟨by rfl, ?_⟩) (by assumption) ?_
  rotate_left
  · (intro w hSw; (try dsimp only at hSw); go_simp; try (with_reducible rfl))
  try simp only [Act.put, List.setIfInBounds_toArray, List.set_cons_zero, List.set_cons_succ]
  refine wpAnyH_done (by kernel_rfl) ?_ _
  clear hHeld3
  have P4 := Lib.hid (P0.out.call hB4)
  have HZ := Lib.hid hZ
  have HW := Lib.hid hW
  have hZl : Z.length ≤ 10000000 := by
    have h1 := waysN_len p x a b (by omega) hn7
    rw [← hZ, List.length_map] at h1
    exact h1
  clear hZ hW hb4 hB4
  try dsimp only
  go_wp2_with fail
  go_loopw [14] (fun si wx => ∃ i : Nat, i ≤ Z.length ∧ si = .int .i64 i ∧ Below w4.heap.size w4 wx) (fun si _ => Z.length - (intOf si).toNat)
  case atStart => exact ⟨0, Nat.zero_le _, rfl, Below.refl _ _⟩
  case round =>
    obtain ⟨i, hi, rfl, hB⟩ := hrel
    have BX := Lib.hid hB
    by_cases hlt : i < Z.length
    · obtain ⟨⟨q, Aq, cq⟩, hz⟩ : ∃ z, Z[i]? = some z := ⟨_, List.getElem?_eq_getElem hlt⟩
      have hzm := List.mem_of_getElem? hz
      obtain ⟨bz, oz, eA, hbz, hcz⟩ := HW.out.row.rd.one (show (Z.map wayV)[i]? = some (wayV (q, Aq, cq)) from by rw [List.getElem?_map, hz]; rfl)
      subst eA
      have hq : q ∈ waysN p x a b := by rw [← HZ.out]; exact List.mem_map.2 ⟨_, hzm, rfl⟩
      have hWQ : WayQ p x q := ⟨b, a, hbN, haN, (mem_waysN GD.out.lksOk haN q).1 hq⟩
      have hE := (HW.out.each _ hzm).2.2.2
      have hq12 := hWQ.len GD.out
      have hi0 : (0 : Int) ≤ (i : Int) := by omega
      have hiZ : (i : Int) < (Z.length : Int) := by omega
      unfold wayV at hcz
      dsimp only at hcz hE
      rcases q with _ | ⟨u, _ | ⟨v, t⟩⟩
      · simp at hq12
      · simp only [List.length_cons, List.length_nil, Nat.zero_add] at hcz
        have hc1 := (hB.cell (p := ⟨bz, _, none⟩) hbz).trans hcz
        have BX1 := Lib.hid hB
        clear hz hzm hq hWQ hE hq12 hcz hbz
        go_wp2
        go_roundw
        case rel => exact ⟨i + 1, by omega, by go_num, BX1.out⟩
        case measure => simp [intOf]; omega
      · obtain ⟨bq, oq, eq, hbq, hcq⟩ := hE.rd.2 (by simp)
        subst eq
        have HE := Lib.hid hE
        have hcu : w4.cell? ⟨bq, oq, none⟩ = some (.int .i64 (u : Int)) := hcq 0 _ rfl
        have hcv : w4.cell? ⟨bq, oq + 1, none⟩ = some (.int .i64 (v : Int)) := hcq 1 _ rfl
        simp only [List.length_cons] at hcz hq12
        obtain ⟨m, hm⟩ : ∃ m, t.length + 1 + 1 = m := ⟨_, rfl⟩
        rw [hm] at hcz hq12
        have hm0 : 0 < m := by omega
        have hm2 : 1 < m := by omega
        have hm3 : (1 : Int) ≤ (m : Int) := by omega
        have hm4 : 1 ≤ m := by omega
        have hm1 : (1 : Int) < (m : Int) := by omega
        have HC2 : Hid (∀ wy, Below w4.heap.size w4 wy → (wy.cell? ⟨bp, 0, none⟩ = some (.int .i64 p.proto) ∧ wy.cell? ⟨bp, 1, none⟩ = some (.int .i64 p.cap) ∧ wy.cell? ⟨bp, 2, none⟩ = some (.int .i64 p.k) ∧ wy.cell? ⟨bp, 3, none⟩ = some (.slice h.an p.nodes.length h.cn) ∧ wy.cell? ⟨bp, 4, none⟩ = some (.slice h.al p.links.length h.cl) ∧ wy.cell? ⟨bp, 5, none⟩ = some (.slice h.ad p.dests.length h.cd) ∧ wy.cell? ⟨bp, 6, none⟩ = some (.slice h.ac p.checks.length h.cc)) ∧ wy.cell? ⟨bz, oz + i, none⟩ = some (.slice (some ⟨bq, oq, none⟩) m cq) ∧ wy.cell? ⟨bq, oq, none⟩ = some (.int .i64 (u : Int)) ∧ wy.cell? ⟨bq, oq + 1, none⟩ = some (.int .i64 (v : Int))) := Lib.hid (fun wy hb => ⟨(P4.out.call hb).pb.all, (hb.cell (p := ⟨bz, _, none⟩) hbz).trans hcz, (hb.cell (p := ⟨bq, _, none⟩) hbq).trans hcu, (hb.cell (p := ⟨bq, _, none⟩) hbq).trans hcv⟩)
        have hcqm := hE.2.2.1
        have hcql : m ≤ cq := by have := hE.2.1; simp at this; omega
        have hcq1 : ¬ cq = 1 := by omega
        obtain ⟨hWT, hadj⟩ := hWQ.tail GD.out
        have huN : u < p.nodes.length := hWQ.lt GD.out u (by simp)
        have CA : Hid (∀ wy, Below w4.heap.size w4 wy → Calls Tryz.prog 26 #[.agg #[.int .i64 p.proto, .int .i64 p.cap, .int .i64 p.k, .slice h.an p.nodes.length h.cn, .slice h.al p.links.length h.cl, .slice h.ad p.dests.length h.cd, .slice h.ac p.checks.length h.cc], .int .i64 x, .int .i64 (u : Int)] wy fun e w' => AroundPost p.links x u wy e w' ∧ Below w4.heap.size w4 w') := Lib.hid (fun wy hb => (aroundX_any p h x u wy (P4.out.call hb).pb.net GD.out).mono fun e w' ⟨A5, c5, e1, e2, e3⟩ => ⟨⟨A5, c5, e1, e2, e3⟩, since_trans hb e3⟩)
        have CO : Hid (∀ (k : Nat) wy, Below w4.heap.size w4 wy → Calls Tryz.prog 27 #[.agg #[.int .i64 p.proto, .int .i64 p.cap, .int .i64 p.k, .slice h.an p.nodes.length h.cn, .slice h.al p.links.length h.cl, .slice h.ad p.dests.length h.cd, .slice h.ac p.checks.length h.cc], .int .i64 (k : Int), .int .i64 (u : Int)] wy fun e w' => e = .returned (.int .i64 (othL p.links k u)) ∧ Below w4.heap.size w4 w') := Lib.hid (fun k wy hb => (otherX_any p h k u wy (P4.out.call hb).pb.net GD.out).mono fun e w' ⟨e1, e2⟩ => ⟨e1, since_trans hb e2⟩)
        have CL1 : Hid (∀ wy, Below w4.heap.size w4 wy → Calls Tryz.prog 25 #[.agg #[.int .i64 p.proto, .int .i64 p.cap, .int .i64 p.k, .slice h.an p.nodes.length h.cn, .slice h.al p.links.length h.cl, .slice h.ad p.dests.length h.cd, .slice h.ac p.checks.length h.cc], .int .i64 x, .slice (some ⟨bq, oq, none⟩) m cq] wy (OrPost (wayR p x (u :: v :: t)) wy)) := Lib.hid (fun wy hb => by
          have := along_any p h x (u :: v :: t) _ cq wy (P4.out.call hb).pb.net GD.out ((HE.out.rd.below hb (Nat.le_refl _)).more hb.size) (by simp; omega) hcqm hWQ
          rwa [show (u :: v :: t).length = m from by simp; omega] at this)
        have CL2 : Hid (∀ wy, Below w4.heap.size w4 wy → Calls Tryz.prog 25 #[.agg #[.int .i64 p.proto, .int .i64 p.cap, .int .i64 p.k, .slice h.an p.nodes.length h.cn, .slice h.al p.links.length h.cl, .slice h.ad p.dests.length h.cd, .slice h.ac p.checks.length h.cc], .int .i64 x, .slice (some ⟨bq, oq + 1, none⟩) (m - 1) (cq - 1)] wy (OrPost (wayR p x (v :: t)) wy)) := Lib.hid (fun wy hb => by
          rw [show m - 1 = (v :: t).length from by simp; omega]
          refine along_any p h x (v :: t) _ (cq - 1) wy (P4.out.call hb).pb.net GD.out ⟨by simp [nats], fun _ => ⟨bq, oq + 1, rfl, Nat.lt_of_lt_of_le hbq hb.size, fun j y hy => ?_⟩⟩ (by simp; omega) (by omega) hWT
          have := (hb.cell (p := ⟨bq, oq + (j + 1), none⟩) hbq).trans (hcq (j + 1) y (by simpa [nats] using hy))
          rw [show oq + 1 + j = oq + (j + 1) from by omega]; exact this)
        have HOV : Hid (∀ k ∈ arL p.links x u p.links.length, othL p.links k u = v → overG p k u (wayR p x (v :: t)) = wayR p x (u :: v :: t)) := Lib.hid (fun k hk ho => by
          rw [over_good GD.out.right]
          show _ = overR p (betI p.links x u v) u (wayR p x (v :: t))
          rw [bet_of_ar GD.out hadj hk ho])
        have CV : Hid (∀ (k : Int) (A6 : Option Addr) (c6 : Nat) (wy : World), Below w4.heap.size w4 wy → RtR wy wy.heap.size (wayR p x (v :: t)) A6 c6 → Calls Tryz.prog 20 #[.agg #[.int .i64 p.proto, .int .i64 p.cap, .int .i64 p.k, .slice h.an p.nodes.length h.cn, .slice h.al p.links.length h.cl, .slice h.ad p.dests.length h.cd, .slice h.ac p.checks.length h.cc], .int .i64 k, .int .i64 (u : Int), .agg #[.int .i64 (wayR p x (v :: t)).kind, .int .i64 (wayR p x (v :: t)).cost, .slice A6 (wayR p x (v :: t)).path.length c6]] wy (OrPost (overG p k u (wayR p x (v :: t))) wy)) := Lib.hid (fun k A6 c6 wy hb hr => rover_any p h k u _ A6 c6 wy (P4.out.call hb).pb.net GD.out.small hr)
        generalize wayR p x (u :: v :: t) = r1 at *
        generalize wayR p x (v :: t) = r2 at *
        obtain ⟨⟨g0, g1, g2, g3, g4, g5, g6⟩, x1, x2, x3⟩ := HC2.out _ hB
        clear hz hzm hq hWQ hE hcz hbz hcq hcu hcv hbq hWT hadj hcqm
        go_upto_region 10 with fail
        clear g0 g1 g2 g3 g4 g5 g6 x1 x2 x3
        have hBd := below_drew hB
        refine wp_region_held_drew (S := (fun wy => (wy.cell? ⟨bp, 0, none⟩ = some (.int .i64 p.proto) ∧ wy.cell? ⟨bp, 1, none⟩ = some (.int .i64 p.cap) ∧ wy.cell? ⟨bp, 2, none⟩ = some (.int .i64 p.k) ∧ wy.cell? ⟨bp, 3, none⟩ = some (.slice h.an p.nodes.length h.cn) ∧ wy.cell? ⟨bp, 4, none⟩ = some (.slice h.al p.links.length h.cl) ∧ wy.cell? ⟨bp, 5, none⟩ = some (.slice h.ad p.dests.length h.cd) ∧ wy.cell? ⟨bp, 6, none⟩ = some (.slice h.ac p.checks.length h.cc)) ∧ wy.cell? ⟨bz, oz + i, none⟩ = some (.slice (some ⟨bq, oq, none⟩) m cq) ∧ wy.cell? ⟨bq, oq, none⟩ = some (.int .i64 (u : Int)) ∧ wy.cell? ⟨bq, oq + 1, none⟩ = some (.int .i64 (v : Int)))) (by kernel_rfl) (HC2.out _ hBd) (fun hHeld0 => ?_)
        refine take_list (i := 0) (v := ?_) rfl (by kernel_rfl) (by kernel_rfl) (by kernel_rfl) (fun _ _ _ h => h) (Or.inl ⟨by rfl, ?_⟩) (by assumption) ?_
        rotate_left
        · (intro w hSw; (try dsimp only at hSw); go_simp; try (with_reducible rfl))
        try simp only [Act.put, List.setIfInBounds_toArray, List.set_cons_zero, List.set_cons_succ]
        refine take_list (i := 1) (v := ?_) rfl (by kernel_rfl) (by kernel_rfl) (by kernel_rfl) (fun _ _ _ h => h) (Or.inl ⟨by rfl, ?_⟩) (by assumption) ?_
        rotate_left
        · (intro w hSw; (try dsimp only at hSw); go_simp; try (with_reducible rfl))
        try simp only [Act.put, List.setIfInBounds_toArray, List.set_cons_zero, List.set_cons_succ]
        refine take_list (i := 2) (v := ?_) rfl (by kernel_rfl) (by kernel_rfl) (by kernel_rfl) (fun _ _ _ h => h) (Or.inl ⟨by rfl, ?_⟩) (by assumption) ?_
        rotate_left
        · (intro w hSw; (try dsimp only at hSw); go_simp; try (with_reducible rfl))
        try simp only [Act.put, List.setIfInBounds_toArray, List.set_cons_zero, List.set_cons_succ]
        refine take_list (i := 3) (v := ?_) rfl (by kernel_rfl) (by kernel_rfl) (by kernel_rfl) (fun _ _ _ h => h) (Or.inl ⟨by rfl, ?_⟩) (by assumption) ?_
        rotate_left
        · (intro w hSw; (try dsimp only at hSw); go_simp; try (with_reducible rfl))
        try simp only [Act.put, List.setIfInBounds_toArray, List.set_cons_zero, List.set_cons_succ]
        refine take_list (i := 4) (v := ?_) rfl (by kernel_rfl) (by kernel_rfl) (by kernel_rfl) (fun _ _ _ h => h) (Or.inl ⟨by rfl, ?_⟩) (by assumption) ?_
        rotate_left
        · (intro w hSw; (try dsimp only at hSw); go_simp; try (with_reducible rfl))
        try simp only [Act.put, List.setIfInBounds_toArray, List.set_cons_zero, List.set_cons_succ]
        refine take_list (i := 5) (v := ?_) rfl (by kernel_rfl) (by kernel_rfl) (by kernel_rfl) (fun _ _ _ h => h) (Or.inl ⟨by rfl, ?_⟩) (by assumption) ?_
        rotate_left
        · (intro w hSw; (try dsimp only at hSw); go_simp; try (with_reducible rfl))
        try simp only [Act.put, List.setIfInBounds_toArray, List.set_cons_zero, List.set_cons_succ]
        refine take_list (i := 6) (v := ?_) rfl (by kernel_rfl) (by kernel_rfl) (by kernel_rfl) (fun _ _ _ h => h) (Or.inl ⟨by rfl, ?_⟩) (by assumption) ?_
        rotate_left
        · (intro w hSw; (try dsimp only at hSw); go_simp; try (with_reducible rfl))
        try simp only [Act.put, List.setIfInBounds_toArray, List.set_cons_zero, List.set_cons_succ]
        refine take_list (i := 7) (v := ?_) rfl (by kernel_rfl) (by kernel_rfl) (by kernel_rfl) (fun _ _ _ h => h) (Or.inl ⟨by rfl, ?_⟩) (by assumption) ?_
        rotate_left
        · (intro w hSw; (try dsimp only at hSw); go_simp; try (with_reducible rfl))
        try simp only [Act.put, List.setIfInBounds_toArray, List.set_cons_zero, List.set_cons_succ]
        refine wpAnyH_ready (rs := [8]) (by kernel_rfl) (by simp) ?_
        refine cons_list rfl (fun K hK => ?_) AllReadyH.nil
        go_simp
        (go_at_call 26; refine (CA.out _ hBd).mono ?_; rintro e w6 ⟨⟨Aa, ca, rfl, hoa, hb6⟩, hB6⟩)
        refine hK.out _ _ (HC2.out _ (by repeat (first | assumption | (refine since_alloc ?_ _) | (refine below_drew ?_)))) (fun hHeld1 => ?_)
        clear hK K hHeld0
        try simp only [Act.put, List.setIfInBounds_toArray, List.set_cons_zero, List.set_cons_succ]
        refine take_list (i := 9) (v := ?_) rfl (by kernel_rfl) (by kernel_rfl) (by kernel_rfl) (fun _ _ _ h => h) (Or.inl ⟨by rfl, ?_⟩) (by assumption) ?_
        rotate_left
        · (intro w hSw; (try dsimp only at hSw); go_simp; try (with_reducible rfl))
        try simp only [Act.put, List.setIfInBounds_toArray, List.set_cons_zero, List.set_cons_succ]
        refine wpAnyH_done (by kernel_rfl) ?_ _
        clear hHeld1
        have B6 := Lib.hid hB6
        have OA := Lib.hid hoa.rd
        have HAR : Hid (∀ k ∈ arL p.links x u p.links.length, overG p k u r2 = r1 ∨ othL p.links k u ≠ v) := Lib.hid (fun k hk => by
          by_cases ho : othL p.links k u = v
          · exact .inl (HOV.out k hk ho)
          · exact .inr ho)
        have hal := arL_le p.links x u p.links.length
        generalize arL p.links x u p.links.length = ar at *
        clear hoa hb6 hB6 hBd
        try dsimp only
        go_wp2_with fail
        go_loopw [16] (fun si wx => ∃ j : Nat, j ≤ ar.length ∧ si = .int .i64 j ∧ Below w6.heap.size w6 wx) (fun si _ => ar.length - (intOf si).toNat)
        case atStart => exact ⟨0, Nat.zero_le _, rfl, Below.refl _ _⟩
        case round =>
          obtain ⟨j, hj, rfl, hBj⟩ := hrel
          have BJ := Lib.hid hBj
          by_cases hltj : j < ar.length
          · obtain ⟨k, hk⟩ : ∃ k, ar[j]? = some k := ⟨_, List.getElem?_eq_getElem hltj⟩
            obtain ⟨ba, oa, ea, hba, hca⟩ := OA.out.one (nats_at hk)
            subst ea
            have hor := HAR.out k (List.mem_of_getElem? hk)
            have hj0 : (0 : Int) ≤ (j : Int) := by omega
            have hjl : (j : Int) < (ar.length : Int) := by omega
            have HC3 : Hid (∀ wy, Below w6.heap.size w6 wy → ((wy.cell? ⟨bp, 0, none⟩ = some (.int .i64 p.proto) ∧ wy.cell? ⟨bp, 1, none⟩ = some (.int .i64 p.cap) ∧ wy.cell? ⟨bp, 2, none⟩ = some (.int .i64 p.k) ∧ wy.cell? ⟨bp, 3, none⟩ = some (.slice h.an p.nodes.length h.cn) ∧ wy.cell? ⟨bp, 4, none⟩ = some (.slice h.al p.links.length h.cl) ∧ wy.cell? ⟨bp, 5, none⟩ = some (.slice h.ad p.dests.length h.cd) ∧ wy.cell? ⟨bp, 6, none⟩ = some (.slice h.ac p.checks.length h.cc)) ∧ wy.cell? ⟨bz, oz + i, none⟩ = some (.slice (some ⟨bq, oq, none⟩) m cq) ∧ wy.cell? ⟨bq, oq, none⟩ = some (.int .i64 (u : Int)) ∧ wy.cell? ⟨bq, oq + 1, none⟩ = some (.int .i64 (v : Int))) ∧ wy.cell? ⟨ba, oa + j, none⟩ = some (.int .i64 (k : Int))) := Lib.hid (fun wy hb => ⟨HC2.out _ (since_trans B6.out hb), (hb.cell (p := ⟨ba, _, none⟩) hba).trans hca⟩)
            have CO3 : Hid (∀ wy, Below w6.heap.size w6 wy → Calls Tryz.prog 27 #[.agg #[.int .i64 p.proto, .int .i64 p.cap, .int .i64 p.k, .slice h.an p.nodes.length h.cn, .slice h.al p.links.length h.cl, .slice h.ad p.dests.length h.cd, .slice h.ac p.checks.length h.cc], .int .i64 (k : Int), .int .i64 (u : Int)] wy fun e w' => e = .returned (.int .i64 (othL p.links k u)) ∧ Below w6.heap.size w6 w') := Lib.hid (fun wy hb => (otherX_any p h k u wy (P4.out.call (since_trans B6.out hb)).pb.net GD.out).mono fun e w' ⟨e1, e2⟩ => ⟨e1, since_trans hb e2⟩)
            clear hk hca hba
            generalize othL p.links k u = o at *
            have hBd := below_drew hBj
            go_upto_region 14 with fail
            refine wp_region_held_drew (S := (fun wy => ((wy.cell? ⟨bp, 0, none⟩ = some (.int .i64 p.proto) ∧ wy.cell? ⟨bp, 1, none⟩ = some (.int .i64 p.cap) ∧ wy.cell? ⟨bp, 2, none⟩ = some (.int .i64 p.k) ∧ wy.cell? ⟨bp, 3, none⟩ = some (.slice h.an p.nodes.length h.cn) ∧ wy.cell? ⟨bp, 4, none⟩ = some (.slice h.al p.links.length h.cl) ∧ wy.cell? ⟨bp, 5, none⟩ = some (.slice h.ad p.dests.length h.cd) ∧ wy.cell? ⟨bp, 6, none⟩ = some (.slice h.ac p.checks.length h.cc)) ∧ wy.cell? ⟨bz, oz + i, none⟩ = some (.slice (some ⟨bq, oq, none⟩) m cq) ∧ wy.cell? ⟨bq, oq, none⟩ = some (.int .i64 (u : Int)) ∧ wy.cell? ⟨bq, oq + 1, none⟩ = some (.int .i64 (v : Int))) ∧ wy.cell? ⟨ba, oa + j, none⟩ = some (.int .i64 (k : Int)))) (by kernel_rfl) (HC3.out _ hBd) (fun hHeld0 => ?_)
            refine take_list (i := 0) (v := ?_) rfl (by kernel_rfl) (by kernel_rfl) (by kernel_rfl) (fun _ _ _ h => h) (Or.inl ⟨by rfl, ?_⟩) (by assumption) ?_
            rotate_left
            · (intro w hSw; (try dsimp only at hSw); go_simp; try (with_reducible rfl))
            try simp only [Act.put, List.setIfInBounds_toArray, List.set_cons_zero, List.set_cons_succ]
            refine take_list (i := 1) (v := ?_) rfl (by kernel_rfl) (by kernel_rfl) (by kernel_rfl) (fun _ _ _ h => h) (Or.inl ⟨by rfl, ?_⟩) (by assumption) ?_
            rotate_left
            · (intro w hSw; (try dsimp only at hSw); go_simp; try (with_reducible rfl))
            try simp only [Act.put, List.setIfInBounds_toArray, List.set_cons_zero, List.set_cons_succ]
            refine take_list (i := 2) (v := ?_) rfl (by kernel_rfl) (by kernel_rfl) (by kernel_rfl) (fun _ _ _ h => h) (Or.inl ⟨by rfl, ?_⟩) (by assumption) ?_
            rotate_left
            · (intro w hSw; (try dsimp only at hSw); go_simp; try (with_reducible rfl))
            try simp only [Act.put, List.setIfInBounds_toArray, List.set_cons_zero, List.set_cons_succ]
            refine take_list (i := 3) (v := ?_) rfl (by kernel_rfl) (by kernel_rfl) (by kernel_rfl) (fun _ _ _ h => h) (Or.inl ⟨by rfl, ?_⟩) (by assumption) ?_
            rotate_left
            · (intro w hSw; (try dsimp only at hSw); go_simp; try (with_reducible rfl))
            try simp only [Act.put, List.setIfInBounds_toArray, List.set_cons_zero, List.set_cons_succ]
            refine take_list (i := 4) (v := ?_) rfl (by kernel_rfl) (by kernel_rfl) (by kernel_rfl) (fun _ _ _ h => h) (Or.inl ⟨by rfl, ?_⟩) (by assumption) ?_
            rotate_left
            · (intro w hSw; (try dsimp only at hSw); go_simp; try (with_reducible rfl))
            try simp only [Act.put, List.setIfInBounds_toArray, List.set_cons_zero, List.set_cons_succ]
            refine take_list (i := 5) (v := ?_) rfl (by kernel_rfl) (by kernel_rfl) (by kernel_rfl) (fun _ _ _ h => h) (Or.inl ⟨by rfl, ?_⟩) (by assumption) ?_
            rotate_left
            · (intro w hSw; (try dsimp only at hSw); go_simp; try (with_reducible rfl))
            try simp only [Act.put, List.setIfInBounds_toArray, List.set_cons_zero, List.set_cons_succ]
            refine take_list (i := 6) (v := ?_) rfl (by kernel_rfl) (by kernel_rfl) (by kernel_rfl) (fun _ _ _ h => h) (Or.inl ⟨by rfl, ?_⟩) (by assumption) ?_
            rotate_left
            · (intro w hSw; (try dsimp only at hSw); go_simp; try (with_reducible rfl))
            try simp only [Act.put, List.setIfInBounds_toArray, List.set_cons_zero, List.set_cons_succ]
            refine take_list (i := 7) (v := ?_) rfl (by kernel_rfl) (by kernel_rfl) (by kernel_rfl) (fun _ _ _ h => h) (Or.inl ⟨by rfl, ?_⟩) (by assumption) ?_
            rotate_left
            · (intro w hSw; (try dsimp only at hSw); go_simp; try (with_reducible rfl))
            try simp only [Act.put, List.setIfInBounds_toArray, List.set_cons_zero, List.set_cons_succ]
            refine take_list (i := 8) (v := ?_) rfl (by kernel_rfl) (by kernel_rfl) (by kernel_rfl) (fun _ _ _ h => h) (Or.inl ⟨by rfl, ?_⟩) (by assumption) ?_
            rotate_left
            · (intro w hSw; (try dsimp only at hSw); go_simp; try (with_reducible rfl))
            try simp only [Act.put, List.setIfInBounds_toArray, List.set_cons_zero, List.set_cons_succ]
            refine take_list (i := 9) (v := ?_) rfl (by kernel_rfl) (by kernel_rfl) (by kernel_rfl) (fun _ _ _ h => h) (Or.inl ⟨by rfl, ?_⟩) (by assumption) ?_
            rotate_left
            · (intro w hSw; (try dsimp only at hSw); go_simp; try (with_reducible rfl))
            try simp only [Act.put, List.setIfInBounds_toArray, List.set_cons_zero, List.set_cons_succ]
            refine take_list (i := 10) (v := ?_) rfl (by kernel_rfl) (by kernel_rfl) (by kernel_rfl) (fun _ _ _ h => h) (Or.inl ⟨by rfl, ?_⟩) (by assumption) ?_
            rotate_left
            · (intro w hSw; (try dsimp only at hSw); go_simp; try (with_reducible rfl))
            try simp only [Act.put, List.setIfInBounds_toArray, List.set_cons_zero, List.set_cons_succ]
            refine take_list (i := 12) (v := ?_) rfl (by kernel_rfl) (by kernel_rfl) (by kernel_rfl) (fun _ _ _ h => h) (Or.inl ⟨by rfl, ?_⟩) (by assumption) ?_
            rotate_left
            · (intro w hSw; (try dsimp only at hSw); go_simp; try (with_reducible rfl))
            try simp only [Act.put, List.setIfInBounds_toArray, List.set_cons_zero, List.set_cons_succ]
            refine take_list (i := 13) (v := ?_) rfl (by kernel_rfl) (by kernel_rfl) (by kernel_rfl) (fun _ _ _ h => h) (Or.inl ⟨by rfl, ?_⟩) (by assumption) ?_
            rotate_left
            · (intro w hSw; (try dsimp only at hSw); go_simp; try (with_reducible rfl))
            try simp only [Act.put, List.setIfInBounds_toArray, List.set_cons_zero, List.set_cons_succ]
            refine take_list (i := 14) (v := ?_) rfl (by kernel_rfl) (by kernel_rfl) (by kernel_rfl) (fun _ _ _ h => h) (Or.inl ⟨by rfl, ?_⟩) (by assumption) ?_
            rotate_left
            · (intro w hSw; (try dsimp only at hSw); go_simp; try (with_reducible rfl))
            try simp only [Act.put, List.setIfInBounds_toArray, List.set_cons_zero, List.set_cons_succ]
            refine take_list (i := 15) (v := ?_) rfl (by kernel_rfl) (by kernel_rfl) (by kernel_rfl) (fun _ _ _ h => h) (Or.inl ⟨by rfl, ?_⟩) (by assumption) ?_
            rotate_left
            · (intro w hSw; (try dsimp only at hSw); go_simp; try (with_reducible rfl))
            try simp only [Act.put, List.setIfInBounds_toArray, List.set_cons_zero, List.set_cons_succ]
            refine take_list (i := 16) (v := ?_) rfl (by kernel_rfl) (by kernel_rfl) (by kernel_rfl) (fun _ _ _ h => h) (Or.inl ⟨by rfl, ?_⟩) (by assumption) ?_
            rotate_left
            · (intro w hSw; (try dsimp only at hSw); go_simp; try (with_reducible rfl))
            try simp only [Act.put, List.setIfInBounds_toArray, List.set_cons_zero, List.set_cons_succ]
            refine take_list (i := 17) (v := ?_) rfl (by kernel_rfl) (by kernel_rfl) (by kernel_rfl) (fun _ _ _ h => h) (Or.inl ⟨by rfl, ?_⟩) (by assumption) ?_
            rotate_left
            · (intro w hSw; (try dsimp only at hSw); go_simp; try (with_reducible rfl))
            try simp only [Act.put, List.setIfInBounds_toArray, List.set_cons_zero, List.set_cons_succ]
            refine wpAnyH_ready (rs := [11]) (by kernel_rfl) (by simp) ?_
            refine cons_list rfl (fun K hK => ?_) AllReadyH.nil
            go_simp
            (go_at_call 27; refine (CO3.out _ hBd).mono ?_; rintro e w7 ⟨rfl, hB7⟩)
            refine hK.out _ _ (HC3.out _ (by repeat (first | assumption | (refine since_alloc ?_ _) | (refine below_drew ?_)))) (fun hHeld1 => ?_)
            clear hK K hHeld0
            try simp only [Act.put, List.setIfInBounds_toArray, List.set_cons_zero, List.set_cons_succ]
            refine take_list (i := 18) (v := ?_) rfl (by kernel_rfl) (by kernel_rfl) (by kernel_rfl) (fun _ _ _ h => h) (Or.inl ⟨by rfl, ?_⟩) (by assumption) ?_
            rotate_left
            · (intro w hSw; (try dsimp only at hSw); go_simp; try (with_reducible rfl))
            try simp only [Act.put, List.setIfInBounds_toArray, List.set_cons_zero, List.set_cons_succ]
            refine wpAnyH_done (by kernel_rfl) ?_ _
            clear hHeld1
            by_cases ho : o = (v : Int)
            · have hq0 : (o != (v : Int)) = false := by simp [ho]
              have hov := hor.resolve_right (fun hne => hne ho)
              have HC7 : Hid (∀ wy, Below w7.heap.size w7 wy → (wy.cell? ⟨bp, 0, none⟩ = some (.int .i64 p.proto) ∧ wy.cell? ⟨bp, 1, none⟩ = some (.int .i64 p.cap) ∧ wy.cell? ⟨bp, 2, none⟩ = some (.int .i64 p.k) ∧ wy.cell? ⟨bp, 3, none⟩ = some (.slice h.an p.nodes.length h.cn) ∧ wy.cell? ⟨bp, 4, none⟩ = some (.slice h.al p.links.length h.cl) ∧ wy.cell? ⟨bp, 5, none⟩ = some (.slice h.ad p.dests.length h.cd) ∧ wy.cell? ⟨bp, 6, none⟩ = some (.slice h.ac p.checks.length h.cc)) ∧ wy.cell? ⟨bz, oz + i, none⟩ = some (.slice (some ⟨bq, oq, none⟩) m cq) ∧ wy.cell? ⟨bq, oq, none⟩ = some (.int .i64 (u : Int)) ∧ wy.cell? ⟨bq, oq + 1, none⟩ = some (.int .i64 (v : Int))) := Lib.hid (fun wy hb => (HC3.out _ (since_trans hB7 hb)).1)
              have HJ7 : Hid (∀ wy, Below w7.heap.size w7 wy → wy.cell? ⟨ba, oa + j, none⟩ = some (.int .i64 (k : Int))) := Lib.hid (fun wy hb => (HC3.out _ (since_trans hB7 hb)).2)
              have B47 := Lib.hid (since_trans B6.out hB7)
              have CL7 : Hid (∀ wy, Below w7.heap.size w7 wy → Calls Tryz.prog 25 #[.agg #[.int .i64 p.proto, .int .i64 p.cap, .int .i64 p.k, .slice h.an p.nodes.length h.cn, .slice h.al p.links.length h.cl, .slice h.ad p.dests.length h.cd, .slice h.ac p.checks.length h.cc], .int .i64 x, .slice (some ⟨bq, oq + 1, none⟩) (m - 1) (cq - 1)] wy fun e w' => OrPost r2 wy e w' ∧ Below w7.heap.size w7 w') := Lib.hid (fun wy hb => (CL2.out wy (since_trans B47.out hb)).mono fun e w' ⟨A5, c5, e1, e2, e3⟩ => ⟨⟨A5, c5, e1, e2, e3⟩, since_trans hb e3⟩)
              have CL8 : Hid (∀ wy, Below w7.heap.size w7 wy → Calls Tryz.prog 25 #[.agg #[.int .i64 p.proto, .int .i64 p.cap, .int .i64 p.k, .slice h.an p.nodes.length h.cn, .slice h.al p.links.length h.cl, .slice h.ad p.dests.length h.cd, .slice h.ac p.checks.length h.cc], .int .i64 x, .slice (some ⟨bq, oq, none⟩) m cq] wy (OrPost r1 wy)) := Lib.hid (fun wy hb => CL1.out wy (since_trans B47.out hb))
              have CV8 : Hid (∀ (A6 : Option Addr) (c6 : Nat) (wy : World), Below w7.heap.size w7 wy → RtR wy wy.heap.size r2 A6 c6 → Calls Tryz.prog 20 #[.agg #[.int .i64 p.proto, .int .i64 p.cap, .int .i64 p.k, .slice h.an p.nodes.length h.cn, .slice h.al p.links.length h.cl, .slice h.ad p.dests.length h.cd, .slice h.ac p.checks.length h.cc], .int .i64 (k : Int), .int .i64 (u : Int), .agg #[.int .i64 r2.kind, .int .i64 r2.cost, .slice A6 r2.path.length c6]] wy (OrPost r1 wy)) := Lib.hid (fun A6 c6 wy hb hr => by
                have := CV.out k A6 c6 wy (since_trans B47.out hb) hr
                rwa [hov] at this)
              have B7 := Lib.hid hB7
              clear ho hor hBd hBj hov hB7
              try dsimp only
              go_upto_region 15 with fail
              go_cut [17] (fun s wy => ∃ (bR : Nat) (A5 : Option Addr) (c5 : Nat), s = .pointer (some ⟨bR, 0, none⟩) ∧ OW w7 wy bR r2 A5 c5)
              case first =>
                go_wp2_with fail
                have hBd7 := below_drew (Below.refl w7.heap.size w7)
                refine wp_region_held_drew (S := (fun wy => (wy.cell? ⟨bp, 0, none⟩ = some (.int .i64 p.proto) ∧ wy.cell? ⟨bp, 1, none⟩ = some (.int .i64 p.cap) ∧ wy.cell? ⟨bp, 2, none⟩ = some (.int .i64 p.k) ∧ wy.cell? ⟨bp, 3, none⟩ = some (.slice h.an p.nodes.length h.cn) ∧ wy.cell? ⟨bp, 4, none⟩ = some (.slice h.al p.links.length h.cl) ∧ wy.cell? ⟨bp, 5, none⟩ = some (.slice h.ad p.dests.length h.cd) ∧ wy.cell? ⟨bp, 6, none⟩ = some (.slice h.ac p.checks.length h.cc)) ∧ wy.cell? ⟨bz, oz + i, none⟩ = some (.slice (some ⟨bq, oq, none⟩) m cq) ∧ wy.cell? ⟨bq, oq, none⟩ = some (.int .i64 (u : Int)) ∧ wy.cell? ⟨bq, oq + 1, none⟩ = some (.int .i64 (v : Int)))) (by kernel_rfl) (HC7.out _ hBd7) (fun hHeld0 => ?_)
                refine take_list (i := 0) (v := ?_) rfl (by kernel_rfl) (by kernel_rfl) (by kernel_rfl) (fun _ _ _ h => h) (Or.inl ⟨by rfl, ?_⟩) (by assumption) ?_
                rotate_left
                · (intro w hSw; (try dsimp only at hSw); go_simp; try (with_reducible rfl))
                try simp only [Act.put, List.setIfInBounds_toArray, List.set_cons_zero, List.set_cons_succ]
                refine take_list (i := 1) (v := ?_) rfl (by kernel_rfl) (by kernel_rfl) (by kernel_rfl) (fun _ _ _ h => h) (Or.inl ⟨by rfl, ?_⟩) (by assumption) ?_
                rotate_left
                · (intro w hSw; (try dsimp only at hSw); go_simp; try (with_reducible rfl))
                try simp only [Act.put, List.setIfInBounds_toArray, List.set_cons_zero, List.set_cons_succ]
                refine take_list (i := 2) (v := ?_) rfl (by kernel_rfl) (by kernel_rfl) (by kernel_rfl) (fun _ _ _ h => h) (Or.inl ⟨by rfl, ?_⟩) (by assumption) ?_
                rotate_left
                · (intro w hSw; (try dsimp only at hSw); go_simp; try (with_reducible rfl))
                try simp only [Act.put, List.setIfInBounds_toArray, List.set_cons_zero, List.set_cons_succ]
                refine take_list (i := 3) (v := ?_) rfl (by kernel_rfl) (by kernel_rfl) (by kernel_rfl) (fun _ _ _ h => h) (Or.inl ⟨by rfl, ?_⟩) (by assumption) ?_
                rotate_left
                · (intro w hSw; (try dsimp only at hSw); go_simp; try (with_reducible rfl))
                try simp only [Act.put, List.setIfInBounds_toArray, List.set_cons_zero, List.set_cons_succ]
                refine take_list (i := 4) (v := ?_) rfl (by kernel_rfl) (by kernel_rfl) (by kernel_rfl) (fun _ _ _ h => h) (Or.inl ⟨by rfl, ?_⟩) (by assumption) ?_
                rotate_left
                · (intro w hSw; (try dsimp only at hSw); go_simp; try (with_reducible rfl))
                try simp only [Act.put, List.setIfInBounds_toArray, List.set_cons_zero, List.set_cons_succ]
                refine take_list (i := 5) (v := ?_) rfl (by kernel_rfl) (by kernel_rfl) (by kernel_rfl) (fun _ _ _ h => h) (Or.inl ⟨by rfl, ?_⟩) (by assumption) ?_
                rotate_left
                · (intro w hSw; (try dsimp only at hSw); go_simp; try (with_reducible rfl))
                try simp only [Act.put, List.setIfInBounds_toArray, List.set_cons_zero, List.set_cons_succ]
                refine take_list (i := 6) (v := ?_) rfl (by kernel_rfl) (by kernel_rfl) (by kernel_rfl) (fun _ _ _ h => h) (Or.inl ⟨by rfl, ?_⟩) (by assumption) ?_
                rotate_left
                · (intro w hSw; (try dsimp only at hSw); go_simp; try (with_reducible rfl))
                try simp only [Act.put, List.setIfInBounds_toArray, List.set_cons_zero, List.set_cons_succ]
                refine wpAnyH_ready (rs := [7, 8]) (by kernel_rfl) (by simp) ?_
                refine cons_list rfl (fun K hK => ?_) (cons_list rfl (fun K hK => ?_) AllReadyH.nil)
                ·
                  go_simp
                  (go_at_call 25; refine (CL7.out _ (by repeat (first | assumption | (exact Below.refl _ _) | (refine since_alloc ?_ _) | (refine below_drew ?_)))).mono ?_; rintro e wm ⟨⟨A5, c5, rfl, ho5, hBB⟩, hBm⟩; unfold rtV)
                  refine hK.out _ _ (HC7.out _ (by repeat (first | assumption | (refine since_alloc ?_ _) | (refine below_drew ?_) | (refine Below.setCell ?_ (by exact Nat.le_refl _) _) | (exact Below.refl _ _)))) (fun hHeld1 => ?_)
                  clear hK K hHeld0
                  try simp only [Act.put, List.setIfInBounds_toArray, List.set_cons_zero, List.set_cons_succ]
                  refine wpAnyH_ready (rs := [8]) (by kernel_rfl) (by simp) ?_
                  refine cons_list rfl (fun K hK => ?_) AllReadyH.nil
                  go_simp
                  refine hK.out _ _ (HC7.out _ (by repeat (first | assumption | (refine since_alloc ?_ _) | (refine below_drew ?_) | (refine Below.setCell ?_ (by exact Nat.le_refl _) _) | (exact Below.refl _ _)))) (fun hHeld2 => ?_)
                  clear hK K hHeld1
                  try simp only [Act.put, List.setIfInBounds_toArray, List.set_cons_zero, List.set_cons_succ]
                  refine wpAnyH_ready (rs := [9]) (by kernel_rfl) (by simp) ?_
                  refine cons_list rfl (fun K hK => ?_) AllReadyH.nil
                  (first | (have kz := (by first | exact nk_d hBB | exact nk_n hBB); have kr0 := cell_of_row wm _ 0 _ _ _ kz; have kr1 := cell_of_row wm _ 1 _ _ _ kz; have kr2 := cell_of_row wm _ 2 _ _ _ kz; have kf0 := frozen_of_row wm _ 0 _ _ kz; have kf1 := frozen_of_row wm _ 1 _ _ kz; have kf2 := frozen_of_row wm _ 2 _ _ kz) | skip)
                  go_simp
                  refine hK.out _ _ (HC7.out _ (by repeat (first | assumption | (refine since_alloc ?_ _) | (refine below_drew ?_) | (refine Below.setCell ?_ (by exact Nat.le_refl _) _) | (exact Below.refl _ _)))) (fun hHeld3 => ?_)
                  clear hK K hHeld2
                  try simp only [Act.put, List.setIfInBounds_toArray, List.set_cons_zero, List.set_cons_succ]
                  refine wpAnyH_done (by kernel_rfl) ?_ _
                  clear hHeld3
                  go_wp2
                  go_meet
                  case rel => refine ⟨_, A5, c5, rfl, ?_⟩; first | exact OW.new hBm (ho5.rt _ _) | exact OW.put hBm (Nat.le_refl _) (by show w7.heap.size < (w7.alloc _).heap.size; simp) ho5 kz
                ·
                  go_simp
                  refine hK.out _ _ (HC7.out _ (by repeat (first | assumption | (refine since_alloc ?_ _) | (refine below_drew ?_) | (refine Below.setCell ?_ (by exact Nat.le_refl _) _) | (exact Below.refl _ _)))) (fun hHeld1 => ?_)
                  clear hK K hHeld0
                  try simp only [Act.put, List.setIfInBounds_toArray, List.set_cons_zero, List.set_cons_succ]
                  refine wpAnyH_ready (rs := [7]) (by kernel_rfl) (by simp) ?_
                  refine cons_list rfl (fun K hK => ?_) AllReadyH.nil
                  go_simp
                  (go_at_call 25; refine (CL7.out _ (by repeat (first | assumption | (exact Below.refl _ _) | (refine since_alloc ?_ _) | (refine below_drew ?_)))).mono ?_; rintro e wm ⟨⟨A5, c5, rfl, ho5, hBB⟩, hBm⟩; unfold rtV)
                  refine hK.out _ _ (HC7.out _ (by repeat (first | assumption | (refine since_alloc ?_ _) | (refine below_drew ?_) | (refine Below.setCell ?_ (by exact Nat.le_refl _) _) | (exact Below.refl _ _)))) (fun hHeld2 => ?_)
                  clear hK K hHeld1
                  try simp only [Act.put, List.setIfInBounds_toArray, List.set_cons_zero, List.set_cons_succ]
                  refine wpAnyH_ready (rs := [9]) (by kernel_rfl) (by simp) ?_
                  refine cons_list rfl (fun K hK => ?_) AllReadyH.nil
                  (first | (have kz := (by first | exact nk_d hBB | exact nk_n hBB); have kr0 := cell_of_row wm _ 0 _ _ _ kz; have kr1 := cell_of_row wm _ 1 _ _ _ kz; have kr2 := cell_of_row wm _ 2 _ _ _ kz; have kf0 := frozen_of_row wm _ 0 _ _ kz; have kf1 := frozen_of_row wm _ 1 _ _ kz; have kf2 := frozen_of_row wm _ 2 _ _ kz) | skip)
                  go_simp
                  refine hK.out _ _ (HC7.out _ (by repeat (first | assumption | (refine since_alloc ?_ _) | (refine below_drew ?_) | (refine Below.setCell ?_ (by exact Nat.le_refl _) _) | (exact Below.refl _ _)))) (fun hHeld3 => ?_)
                  clear hK K hHeld2
                  try simp only [Act.put, List.setIfInBounds_toArray, List.set_cons_zero, List.set_cons_succ]
                  refine wpAnyH_done (by kernel_rfl) ?_ _
                  clear hHeld3
                  go_wp2
                  go_meet
                  case rel => refine ⟨_, A5, c5, rfl, ?_⟩; first | exact OW.new hBm (ho5.rt _ _) | exact OW.put hBm (Nat.le_refl _) (by show w7.heap.size < (w7.alloc _).heap.size; simp) ho5 kz
              case rest =>
              obtain ⟨bR, A5, c5, rfl, hN⟩ := hcut
              have HK := Lib.hid hN.keep
              clear hN
              obtain ⟨q0, q1, q2⟩ := (HK.out _ (Below.refl _ _)).box.at_
              go_upto_region 16 with fail
              clear q0 q1 q2
              have hbd := drew_of HK.out
              refine wp_region_held_drew (S := (fun wy => ((wy.cell? ⟨bp, 0, none⟩ = some (.int .i64 p.proto) ∧ wy.cell? ⟨bp, 1, none⟩ = some (.int .i64 p.cap) ∧ wy.cell? ⟨bp, 2, none⟩ = some (.int .i64 p.k) ∧ wy.cell? ⟨bp, 3, none⟩ = some (.slice h.an p.nodes.length h.cn) ∧ wy.cell? ⟨bp, 4, none⟩ = some (.slice h.al p.links.length h.cl) ∧ wy.cell? ⟨bp, 5, none⟩ = some (.slice h.ad p.dests.length h.cd) ∧ wy.cell? ⟨bp, 6, none⟩ = some (.slice h.ac p.checks.length h.cc)) ∧ wy.cell? ⟨bz, oz + i, none⟩ = some (.slice (some ⟨bq, oq, none⟩) m cq) ∧ wy.cell? ⟨bq, oq, none⟩ = some (.int .i64 (u : Int)) ∧ wy.cell? ⟨bq, oq + 1, none⟩ = some (.int .i64 (v : Int))) ∧ wy.cell? ⟨ba, oa + j, none⟩ = some (.int .i64 (k : Int)) ∧ wy.cell? ⟨bR, 0, none⟩ = some (.int .i64 r2.kind) ∧ wy.cell? ⟨bR, 1, none⟩ = some (.int .i64 r2.cost) ∧ wy.cell? ⟨bR, 2, none⟩ = some (.slice A5 r2.path.length c5))) (by kernel_rfl) (⟨HC7.out _ (HK.out _ hbd).below, HJ7.out _ (HK.out _ hbd).below, (HK.out _ hbd).box.at_⟩) (fun hHeld0 => ?_)
              refine take_list (i := 0) (v := ?_) rfl (by kernel_rfl) (by kernel_rfl) (by kernel_rfl) (fun _ _ _ h => h) (Or.inl ⟨by rfl, ?_⟩) (by assumption) ?_
              rotate_left
              · (intro w hSw; (try dsimp only at hSw); go_simp; try (with_reducible rfl))
              try simp only [Act.put, List.setIfInBounds_toArray, List.set_cons_zero, List.set_cons_succ]
              refine take_list (i := 1) (v := ?_) rfl (by kernel_rfl) (by kernel_rfl) (by kernel_rfl) (fun _ _ _ h => h) (Or.inl ⟨by rfl, ?_⟩) (by assumption) ?_
              rotate_left
              · (intro w hSw; (try dsimp only at hSw); go_simp; try (with_reducible rfl))
              try simp only [Act.put, List.setIfInBounds_toArray, List.set_cons_zero, List.set_cons_succ]
              refine take_list (i := 2) (v := ?_) rfl (by kernel_rfl) (by kernel_rfl) (by kernel_rfl) (fun _ _ _ h => h) (Or.inl ⟨by rfl, ?_⟩) (by assumption) ?_
              rotate_left
              · (intro w hSw; (try dsimp only at hSw); go_simp; try (with_reducible rfl))
              try simp only [Act.put, List.setIfInBounds_toArray, List.set_cons_zero, List.set_cons_succ]
              refine take_list (i := 3) (v := ?_) rfl (by kernel_rfl) (by kernel_rfl) (by kernel_rfl) (fun _ _ _ h => h) (Or.inl ⟨by rfl, ?_⟩) (by assumption) ?_
              rotate_left
              · (intro w hSw; (try dsimp only at hSw); go_simp; try (with_reducible rfl))
              try simp only [Act.put, List.setIfInBounds_toArray, List.set_cons_zero, List.set_cons_succ]
              refine take_list (i := 4) (v := ?_) rfl (by kernel_rfl) (by kernel_rfl) (by kernel_rfl) (fun _ _ _ h => h) (Or.inl ⟨by rfl, ?_⟩) (by assumption) ?_
              rotate_left
              · (intro w hSw; (try dsimp only at hSw); go_simp; try (with_reducible rfl))
              try simp only [Act.put, List.setIfInBounds_toArray, List.set_cons_zero, List.set_cons_succ]
              refine take_list (i := 5) (v := ?_) rfl (by kernel_rfl) (by kernel_rfl) (by kernel_rfl) (fun _ _ _ h => h) (Or.inl ⟨by rfl, ?_⟩) (by assumption) ?_
              rotate_left
              · (intro w hSw; (try dsimp only at hSw); go_simp; try (with_reducible rfl))
              try simp only [Act.put, List.setIfInBounds_toArray, List.set_cons_zero, List.set_cons_succ]
              refine take_list (i := 7) (v := ?_) rfl (by kernel_rfl) (by kernel_rfl) (by kernel_rfl) (fun _ _ _ h => h) (Or.inl ⟨by rfl, ?_⟩) (by assumption) ?_
              rotate_left
              · (intro w hSw; (try dsimp only at hSw); go_simp; try (with_reducible rfl))
              try simp only [Act.put, List.setIfInBounds_toArray, List.set_cons_zero, List.set_cons_succ]
              refine take_list (i := 8) (v := ?_) rfl (by kernel_rfl) (by kernel_rfl) (by kernel_rfl) (fun _ _ _ h => h) (Or.inl ⟨by rfl, ?_⟩) (by assumption) ?_
              rotate_left
              · (intro w hSw; (try dsimp only at hSw); go_simp; try (with_reducible rfl))
              try simp only [Act.put, List.setIfInBounds_toArray, List.set_cons_zero, List.set_cons_succ]
              refine take_list (i := 9) (v := ?_) rfl (by kernel_rfl) (by kernel_rfl) (by kernel_rfl) (fun _ _ _ h => h) (Or.inl ⟨by rfl, ?_⟩) (by assumption) ?_
              rotate_left
              · (intro w hSw; (try dsimp only at hSw); go_simp; try (with_reducible rfl))
              try simp only [Act.put, List.setIfInBounds_toArray, List.set_cons_zero, List.set_cons_succ]
              refine take_list (i := 10) (v := ?_) rfl (by kernel_rfl) (by kernel_rfl) (by kernel_rfl) (fun _ _ _ h => h) (Or.inl ⟨by rfl, ?_⟩) (by assumption) ?_
              rotate_left
              · (intro w hSw; (try dsimp only at hSw); go_simp; try (with_reducible rfl))
              try simp only [Act.put, List.setIfInBounds_toArray, List.set_cons_zero, List.set_cons_succ]
              refine take_list (i := 11) (v := ?_) rfl (by kernel_rfl) (by kernel_rfl) (by kernel_rfl) (fun _ _ _ h => h) (Or.inl ⟨by rfl, ?_⟩) (by assumption) ?_
              rotate_left
              · (intro w hSw; (try dsimp only at hSw); go_simp; try (with_reducible rfl))
              try simp only [Act.put, List.setIfInBounds_toArray, List.set_cons_zero, List.set_cons_succ]
              refine take_list (i := 12) (v := ?_) rfl (by kernel_rfl) (by kernel_rfl) (by kernel_rfl) (fun _ _ _ h => h) (Or.inl ⟨by rfl, ?_⟩) (by assumption) ?_
              rotate_left
              · (intro w hSw; (try dsimp only at hSw); go_simp; try (with_reducible rfl))
              try simp only [Act.put, List.setIfInBounds_toArray, List.set_cons_zero, List.set_cons_succ]
              refine take_list (i := 13) (v := ?_) rfl (by kernel_rfl) (by kernel_rfl) (by kernel_rfl) (fun _ _ _ h => h) (Or.inl ⟨by rfl, ?_⟩) (by assumption) ?_
              rotate_left
              · (intro w hSw; (try dsimp only at hSw); go_simp; try (with_reducible rfl))
              try simp only [Act.put, List.setIfInBounds_toArray, List.set_cons_zero, List.set_cons_succ]
              refine take_list (i := 14) (v := ?_) rfl (by kernel_rfl) (by kernel_rfl) (by kernel_rfl) (fun _ _ _ h => h) (Or.inl ⟨by rfl, ?_⟩) (by assumption) ?_
              rotate_left
              · (intro w hSw; (try dsimp only at hSw); go_simp; try (with_reducible rfl))
              try simp only [Act.put, List.setIfInBounds_toArray, List.set_cons_zero, List.set_cons_succ]
              refine take_list (i := 15) (v := ?_) rfl (by kernel_rfl) (by kernel_rfl) (by kernel_rfl) (fun _ _ _ h => h) (Or.inl ⟨by rfl, ?_⟩) (by assumption) ?_
              rotate_left
              · (intro w hSw; (try dsimp only at hSw); go_simp; try (with_reducible rfl))
              try simp only [Act.put, List.setIfInBounds_toArray, List.set_cons_zero, List.set_cons_succ]
              refine take_list (i := 16) (v := ?_) rfl (by kernel_rfl) (by kernel_rfl) (by kernel_rfl) (fun _ _ _ h => h) (Or.inl ⟨by rfl, ?_⟩) (by assumption) ?_
              rotate_left
              · (intro w hSw; (try dsimp only at hSw); go_simp; try (with_reducible rfl))
              try simp only [Act.put, List.setIfInBounds_toArray, List.set_cons_zero, List.set_cons_succ]
              refine take_list (i := 17) (v := ?_) rfl (by kernel_rfl) (by kernel_rfl) (by kernel_rfl) (fun _ _ _ h => h) (Or.inl ⟨by rfl, ?_⟩) (by assumption) ?_
              rotate_left
              · (intro w hSw; (try dsimp only at hSw); go_simp; try (with_reducible rfl))
              try simp only [Act.put, List.setIfInBounds_toArray, List.set_cons_zero, List.set_cons_succ]
              refine take_list (i := 18) (v := ?_) rfl (by kernel_rfl) (by kernel_rfl) (by kernel_rfl) (fun _ _ _ h => h) (Or.inl ⟨by rfl, ?_⟩) (by assumption) ?_
              rotate_left
              · (intro w hSw; (try dsimp only at hSw); go_simp; try (with_reducible rfl))
              try simp only [Act.put, List.setIfInBounds_toArray, List.set_cons_zero, List.set_cons_succ]
              refine wpAnyH_ready (rs := [6]) (by kernel_rfl) (by simp) ?_
              refine cons_list rfl (fun K hK => ?_) AllReadyH.nil
              go_simp
              (go_at_call 25; refine (CL8.out _ (HK.out _ hbd).below).mono ?_; rintro e w8 ⟨A8, c8, rfl, ho8, hb8⟩; have hB8 := since_trans hbd hb8; unfold rtV)
              refine hK.out _ _ ((by first | exact ⟨HC7.out _ (HK.out _ hB10).below, HJ7.out _ (HK.out _ hB10).below, (HK.out _ hB10).box.at_⟩ | exact ⟨HC7.out _ (HK.out _ hB9).below, HJ7.out _ (HK.out _ hB9).below, (HK.out _ hB9).box.at_⟩ | exact ⟨HC7.out _ (HK.out _ hB8).below, HJ7.out _ (HK.out _ hB8).below, (HK.out _ hB8).box.at_⟩ | exact ⟨HC7.out _ (HK.out _ hbd).below, HJ7.out _ (HK.out _ hbd).below, (HK.out _ hbd).box.at_⟩)) (fun hHeld1 => ?_)
              clear hK K hHeld0
              try simp only [Act.put, List.setIfInBounds_toArray, List.set_cons_zero, List.set_cons_succ]
              refine wpAnyH_ready (rs := [19]) (by kernel_rfl) (by simp) ?_
              refine cons_list rfl (fun K hK => ?_) AllReadyH.nil
              go_simp
              (go_at_call 20; refine (CV8.out A5 c5 _ (HK.out _ hB8).below (HK.out _ hB8).box.rt).mono ?_; rintro e w9 ⟨A9, c9, rfl, ho9, hb9⟩; have hB9 := since_trans hB8 hb9; unfold rtV)
              refine hK.out _ _ ((by first | exact ⟨HC7.out _ (HK.out _ hB10).below, HJ7.out _ (HK.out _ hB10).below, (HK.out _ hB10).box.at_⟩ | exact ⟨HC7.out _ (HK.out _ hB9).below, HJ7.out _ (HK.out _ hB9).below, (HK.out _ hB9).box.at_⟩ | exact ⟨HC7.out _ (HK.out _ hB8).below, HJ7.out _ (HK.out _ hB8).below, (HK.out _ hB8).box.at_⟩ | exact ⟨HC7.out _ (HK.out _ hbd).below, HJ7.out _ (HK.out _ hbd).below, (HK.out _ hbd).box.at_⟩)) (fun hHeld2 => ?_)
              clear hK K hHeld1
              try simp only [Act.put, List.setIfInBounds_toArray, List.set_cons_zero, List.set_cons_succ]
              refine wpAnyH_ready (rs := [20]) (by kernel_rfl) (by simp) ?_
              refine cons_list rfl (fun K hK => ?_) AllReadyH.nil
              go_simp
              (go_at_call 14; refine (refSame_any r1 r1 A8 A9 c8 c9 _ ((ho8.call hb9).rt _ _) (ho9.rt _ _)).mono ?_; rintro e w10 ⟨rfl, hb10⟩; have hB10 := since_trans hB9 hb10; rw [show decide (r1 = r1) = true from decide_eq_true rfl])
              refine hK.out _ _ ((by first | exact ⟨HC7.out _ (HK.out _ hB10).below, HJ7.out _ (HK.out _ hB10).below, (HK.out _ hB10).box.at_⟩ | exact ⟨HC7.out _ (HK.out _ hB9).below, HJ7.out _ (HK.out _ hB9).below, (HK.out _ hB9).box.at_⟩ | exact ⟨HC7.out _ (HK.out _ hB8).below, HJ7.out _ (HK.out _ hB8).below, (HK.out _ hB8).box.at_⟩ | exact ⟨HC7.out _ (HK.out _ hbd).below, HJ7.out _ (HK.out _ hbd).below, (HK.out _ hbd).box.at_⟩)) (fun hHeld3 => ?_)
              clear hK K hHeld2
              try simp only [Act.put, List.setIfInBounds_toArray, List.set_cons_zero, List.set_cons_succ]
              refine take_list (i := 21) (v := ?_) rfl (by kernel_rfl) (by kernel_rfl) (by kernel_rfl) (fun _ _ _ h => h) (Or.inl ⟨by rfl, ?_⟩) (by assumption) ?_
              rotate_left
              · (intro w hSw; (try dsimp only at hSw); go_simp; try (with_reducible rfl))
              try simp only [Act.put, List.setIfInBounds_toArray, List.set_cons_zero, List.set_cons_succ]
              refine wpAnyH_done (by kernel_rfl) ?_ _
              clear hHeld3
              have BZ := Lib.hid (since_trans B7.out (HK.out _ hB10).below)
              clear hB8 hB9 hB10 hb8 hb9 hb10 ho8 ho9 hbd
              try dsimp only
              go_wp2
              go_roundw
              case rel => exact ⟨j + 1, by omega, by go_num, BZ.out⟩
              case measure => simp [intOf]; omega
            · have hq0 : (o != (v : Int)) = true := by simp [ho]
              have B7 := Lib.hid hB7
              clear ho hor hBd hBj
              try dsimp only
              go_wp2
              go_roundw
              case rel => exact ⟨j + 1, by omega, by go_num, B7.out⟩
              case measure => simp [intOf]; omega
          · have hje : j = ar.length := by omega
            clear hje
            have BF := Lib.hid (since_trans B6.out hBj)
            go_wp2
            go_roundw
            case rel => exact ⟨i + 1, by omega, by go_num, BF.out⟩
            case measure => simp [intOf]; omega
    · have hie : i = Z.length := by omega
      have BF := Lib.hid (P4.out.call hB).pb.below
      go_wp2
      go_ret
      exact ⟨rfl, BF.out⟩
end Go.Proofs.YtlnnmjomdblciaaGreat

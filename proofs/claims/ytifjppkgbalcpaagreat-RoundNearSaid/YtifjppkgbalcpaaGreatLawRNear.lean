/- The walk of backstaylaw09.RoundNear. -/
import Derived.Test.YtifjppkgbalcpaaGreatLaw9
import Derived.Test.YtifjppkgbalcpaaGreatFewerP
namespace Go.Proofs.YtifjppkgbalcpaaGreat
set_option linter.unusedSimpArgs false
set_option linter.unusedVariables false
open Go.RowKit

theorem rt_set : ∀ (L : List RtZ) (k : Nat) (z : RtZ), k < L.length → (L.set k z).flatMap rtCells = (((L.flatMap rtCells).set (k * 3) (.int .i64 z.1.kind)).set (k * 3 + 1) (.int .i64 z.1.cost)).set (k * 3 + 2) (.slice z.2.1 z.1.path.length z.2.2)
  | [], k, z, h => by simp at h
  | y :: L, 0, z, _ => by simp [rtCells]
  | y :: L, k + 1, z, h => by
    have ih := rt_set L k z (by simpa using h)
    have e : (k + 1) * 3 = k * 3 + 1 + 1 + 1 := by omega
    simp only [List.set_cons_succ, List.flatMap_cons, ih, e]
    simp [rtCells]
/-- A route of one's own is written over. -/
theorem rts_put {w : World} {B g off c : Nat} {Z : List RtZ} (h : Own w B 36 3 (some ⟨g, off, none⟩) Z.length c (Z.flatMap rtCells)) {m : Nat} (hm : m < Z.length) (z : RtZ) :
    Own (((w.setCell ⟨g, off + m * 3, none⟩ (.int .i64 z.1.kind)).setCell ⟨g, off + m * 3 + 1, none⟩ (.int .i64 z.1.cost)).setCell ⟨g, off + m * 3 + 2, none⟩ (.slice z.2.1 z.1.path.length z.2.2)) B 36 3 (some ⟨g, off, none⟩) (Z.set m z).length c ((Z.set m z).flatMap rtCells) := by
  have hl := flat_len (f := rtCells) (s := 3) (fun _ => rfl) Z
  have h1 := h.put (by omega) (j := m * 3) (by omega) (.int .i64 z.1.kind)
  have h2 := h1.put (by omega) (j := m * 3 + 1) (by rw [List.length_set]; omega) (.int .i64 z.1.cost)
  have h3 := h2.put (by omega) (j := m * 3 + 2) (by rw [List.length_set, List.length_set]; omega) (.slice z.2.1 z.1.path.length z.2.2)
  rw [← rt_set Z m z hm] at h3
  rw [List.length_set]
  exact h3
theorem stL_set (p : Net) (l : St) (m : Nat) (r : Rt) : (stL p l).set m r = stL p (fun i => if i = m then r else l i) := by
  apply List.ext_getElem?
  intro i
  by_cases hi : i < p.nodes.length
  · rw [stL_at hi]
    by_cases e : m = i
    · subst e
      rw [List.getElem?_set_self (by rw [stL_len]; exact hi)]; simp
    · rw [List.getElem?_set_ne e, stL_at hi, if_neg (Ne.symm e)]
  · rw [List.getElem?_eq_none (by rw [List.length_set, stL_len]; omega), List.getElem?_eq_none (by rw [stL_len]; omega)]

attribute [local go_sem ↓] Go.wp_at_zero Go.wp_at_succ
set_option maxRecDepth 100000 in
set_option maxHeartbeats 8000000 in
theorem roundNear_walk (a0 a1 : Option Addr) (c0 c1 : Nat) (l0 : List Int) (l1 : List (List Int)) (V1 : List (Option Addr × Nat)) (n2 n3 n4 : Int) (w : World) (h0 : InRow w a0 c0 l0) (h1 : RowsIn w a1 c1 l1 V1) (k2 : In64 n2) (k3 : In64 n3) (k4 : In64 n4) :
    Calls Tryz.prog 4 #[.slice a0 l0.length c0, .slice a1 l1.length c1, .int .i64 n2, .int .i64 n3, .int .i64 n4] w fun e w' => e = .returned (.bool true) ∧ Below w.heap.size w w' := by
  have I2 := Lib.hid k2
  have I3 := Lib.hid k3
  have I4 := Lib.hid k4
  have H1 := Lib.hid h1
  obtain ⟨i3, hi3, hz3, hs3, hb3⟩ := info_parts Tryz.info_rt
  clear k2 k3 k4 h1
  have H0 := Lib.hid h0
  clear h0
  go_enter Tryz.func4, Tryz.ntmps4
  go_wp2_with fail
  refine (awake9 _).mono ?_
  rintro e w1 ⟨rfl, hb1⟩
  have J0 := Lib.hid (H0.out.call hb1)
  have B1 := Lib.hid hb1
  clear hb1
  go_wp2_with fail
  refine (net_any _ _ l0 c0 J0.out.len J0.out.le J0.out.rd J0.out.in64).mono ?_
  rintro e w2 ⟨p, h, rfl, hok, hown, hb⟩
  have B2 := Lib.hid (since_trans B1.out hb)
  have OK := Lib.hid hok
  have GD := Lib.hid hok.good
  have NG := Lib.hid hok.good.netG
  have P0 : Hid (NW w (w2.alloc (.cells #[.int .i64 p.proto, .int .i64 p.cap, .int .i64 p.k, .slice h.an p.nodes.length h.cn, .slice h.al p.links.length h.cl, .slice h.ad p.dests.length h.cd, .slice h.ac p.checks.length h.cc] 29)) w2.heap.size p h []) := Lib.hid ⟨PB.begin B2.out hown.net, by intro z hz; cases hz⟩
  have hn2 := hok.n.1
  have hn7 := hok.n.2
  have hl9 := hok.l9
  have HD0 := Lib.hid (dest0 (p := p) (by have := hok.d12.1; omega))
  clear hb hown hok J0
  unfold netV netVal
  go_upto_region 3 with fail
  generalize (w2.alloc (.cells #[.int .i64 p.proto, .int .i64 p.cap, .int .i64 p.k, .slice h.an p.nodes.length h.cn, .slice h.al p.links.length h.cl, .slice h.ad p.dests.length h.cd, .slice h.ac p.checks.length h.cc] 29)) = w3 at *
  generalize w2.heap.size = bp at *
  clear B1 B2
  obtain ⟨g0, g1, g2, g3, g4, g5, g6⟩ := P0.out.pb.all
  go_wp2_with fail
  refine (pick9_any n2 512 _ I2.out (by omega) (by omega)).mono ?_
  rintro e w' ⟨rfl, rfl⟩
  generalize pickV n2 512 = x at *
  go_wp2_with fail
  refine (pick9_any n3 p.nodes.length _ I3.out (by omega) (by omega)).mono ?_
  rintro e w' ⟨rfl, rfl⟩
  have hn := pickV_in (c := n3) (n := p.nodes.length) (by omega)
  generalize pickV n3 p.nodes.length = n at *
  obtain ⟨n, rfl⟩ : ∃ k : Nat, n = k := ⟨n.toNat, by omega⟩
  obtain ⟨hn0, hn1⟩ := hn
  go_wp2_with fail
  refine (pick9_any n4 p.nodes.length _ I4.out (by omega) (by omega)).mono ?_
  rintro e w' ⟨rfl, rfl⟩
  have hm := pickV_in (c := n4) (n := p.nodes.length) (by omega)
  generalize pickV n4 p.nodes.length = m at *
  obtain ⟨m, rfl⟩ : ∃ k : Nat, m = k := ⟨m.toNat, by omega⟩
  obtain ⟨hm0, hm1⟩ := hm
  go_wp2_with fail
  refine (aroundX_any p h x n _ P0.out.net GD.out).mono ?_
  rintro e w4 ⟨Aa, ca, rfl, hoa, hb4⟩
  have P4 := Lib.hid (P0.out.call hb4)
  have OA := Lib.hid hoa.rd
  have hal := arL_le p.links x n p.links.length
  have HQ : Hid ((arL p.links x n p.links.length).any (fun k => othL p.links k n == (m : Int)) = false → stepF p x 0 (heldS p l1) n = stepF p x 0 (fun i => if i = m then rtNone else heldS p l1 i) n) := Lib.hid (fun hf => step_near (fun k hk => by
    rw [List.any_eq_false] at hf
    have h1 := hf k hk
    simp only [beq_iff_eq] at h1
    obtain ⟨h2, h3⟩ := mem_arL.1 hk
    have hx : p.links[k]? = some p.links[k] := List.getElem?_eq_getElem h2
    obtain ⟨q, hq, -⟩ := ar_oth GD.out.lksOk hx h3
    have ho : othL p.links k n = (q : Int) := by unfold othL; simp [hx, hq]
    rw [ho] at h1 ⊢
    rw [if_neg (by simp only [Int.toNat_natCast]; omega)]))
  generalize har : arL p.links x n p.links.length = ar at *
  clear hoa hb4 g0 g1 g2 g3 g4 g5 g6 har
  go_wp2_with fail
  go_loopw [16, 18] (fun sn si wx => ∃ j : Nat, j ≤ ar.length ∧ si = .int .i64 j ∧ sn = .bool ((ar.take j).any (fun k => othL p.links k n == (m : Int))) ∧ Below w4.heap.size w4 wx) (fun _ si _ => ar.length - (intOf si).toNat)
  case atStart => exact ⟨0, Nat.zero_le _, rfl, by simp, Below.refl _ _⟩
  case round =>
    obtain ⟨j, hj, rfl, rfl, hB⟩ := hrel
    have BX := Lib.hid hB
    have P5 := Lib.hid (P4.out.call hB)
    by_cases hlt : j < ar.length
    · obtain ⟨k, hk⟩ : ∃ k, ar[j]? = some k := ⟨_, List.getElem?_eq_getElem hlt⟩
      have HT := Lib.hid (show (ar.take (j + 1)).any (fun k => othL p.links k n == (m : Int)) = ((ar.take j).any (fun k => othL p.links k n == (m : Int)) || (othL p.links k n == (m : Int))) from by
        rw [List.take_add_one, hk, List.any_append]; simp)
      obtain ⟨b, o, rfl, hb, hc⟩ := OA.out.one (nats_at hk)
      have HC : Hid (∀ wy, Below w4.heap.size w4 wy → (wy.cell? ⟨bp, 0, none⟩ = some (.int .i64 p.proto) ∧ wy.cell? ⟨bp, 1, none⟩ = some (.int .i64 p.cap) ∧ wy.cell? ⟨bp, 2, none⟩ = some (.int .i64 p.k) ∧ wy.cell? ⟨bp, 3, none⟩ = some (.slice h.an p.nodes.length h.cn) ∧ wy.cell? ⟨bp, 4, none⟩ = some (.slice h.al p.links.length h.cl) ∧ wy.cell? ⟨bp, 5, none⟩ = some (.slice h.ad p.dests.length h.cd) ∧ wy.cell? ⟨bp, 6, none⟩ = some (.slice h.ac p.checks.length h.cc)) ∧ wy.cell? ⟨b, o + j, none⟩ = some (.int .i64 (k : Int))) := Lib.hid (fun wy hb2 => ⟨(P4.out.call hb2).pb.all, (hb2.cell (p := ⟨b, o + j, none⟩) hb).trans hc⟩)
      have CO : Hid (∀ wy, Below w4.heap.size w4 wy → Calls Tryz.prog 16 #[.agg #[.int .i64 p.proto, .int .i64 p.cap, .int .i64 p.k, .slice h.an p.nodes.length h.cn, .slice h.al p.links.length h.cl, .slice h.ad p.dests.length h.cd, .slice h.ac p.checks.length h.cc], .int .i64 (k : Int), .int .i64 (n : Int)] wy fun e w' => e = .returned (.int .i64 (othL p.links k n)) ∧ Below w4.heap.size w4 w') := Lib.hid (fun wy hb2 =>
        (otherX_any p h k n wy (P4.out.call hb2).net GD.out).mono fun e w' ⟨h1, h2⟩ => ⟨h1, since_trans hb2 h2⟩)
      have hj0 : (0 : Int) ≤ (j : Int) := by omega
      generalize othL p.links k n = ot at *
      clear hk hc hb
      go_upto_region 11 with fail
      have hBd := below_drew hB
      cases hin : (ar.take j).any (fun k => othL p.links k n == (m : Int)) with
      | true =>
        rw [hin] at HT
        simp only [Bool.true_or] at HT
        clear hin
        refine wp_region_held_drew (S := (fun wy => (wy.cell? ⟨bp, 0, none⟩ = some (.int .i64 p.proto) ∧ wy.cell? ⟨bp, 1, none⟩ = some (.int .i64 p.cap) ∧ wy.cell? ⟨bp, 2, none⟩ = some (.int .i64 p.k) ∧ wy.cell? ⟨bp, 3, none⟩ = some (.slice h.an p.nodes.length h.cn) ∧ wy.cell? ⟨bp, 4, none⟩ = some (.slice h.al p.links.length h.cl) ∧ wy.cell? ⟨bp, 5, none⟩ = some (.slice h.ad p.dests.length h.cd) ∧ wy.cell? ⟨bp, 6, none⟩ = some (.slice h.ac p.checks.length h.cc)) ∧ wy.cell? ⟨b, o + j, none⟩ = some (.int .i64 (k : Int)))) (by kernel_rfl) (HC.out _ hBd) (fun hHeld0 => ?_)
        refine take_list (i := 0) (v := ?_) rfl (by kernel_rfl) (by kernel_rfl) (by kernel_rfl) (fun _ _ _ h => h) (Or.inl ⟨by rfl, ?_⟩) (by assumption) ?_
        rotate_left
        · (intro w hSw; (try dsimp only at hSw); go_simp; try (with_reducible rfl))
        try simp only [Act.put, List.setIfInBounds_toArray, List.set_cons_zero, List.set_cons_succ]
        refine take_list (i := 1) (v := ?_) rfl (by kernel_rfl) (by kernel_rfl) (by kernel_rfl) (fun _ _ _ h => h) (Or.inl ⟨by rfl, ?_⟩) (by assumption) ?_
        rotate_left
        · (intro w hSw; (try dsimp only at hSw); go_simp; try (with_reducible rfl))
        try simp only [Act.put, List.setIfInBounds_toArray, List.set_cons_zero, List.set_cons_succ]
        refine take_list (i := 2) (v := undef) rfl (by kernel_rfl) (by kernel_rfl) (by kernel_rfl) (fun _ _ _ h => h) (Or.inr ⟨by rfl, rfl⟩) (by assumption) ?_
        try simp only [Act.put, List.setIfInBounds_toArray, List.set_cons_zero, List.set_cons_succ]
        refine take_list (i := 3) (v := undef) rfl (by kernel_rfl) (by kernel_rfl) (by kernel_rfl) (fun _ _ _ h => h) (Or.inr ⟨by rfl, rfl⟩) (by assumption) ?_
        try simp only [Act.put, List.setIfInBounds_toArray, List.set_cons_zero, List.set_cons_succ]
        refine take_list (i := 4) (v := undef) rfl (by kernel_rfl) (by kernel_rfl) (by kernel_rfl) (fun _ _ _ h => h) (Or.inr ⟨by rfl, rfl⟩) (by assumption) ?_
        try simp only [Act.put, List.setIfInBounds_toArray, List.set_cons_zero, List.set_cons_succ]
        refine take_list (i := 5) (v := undef) rfl (by kernel_rfl) (by kernel_rfl) (by kernel_rfl) (fun _ _ _ h => h) (Or.inr ⟨by rfl, rfl⟩) (by assumption) ?_
        try simp only [Act.put, List.setIfInBounds_toArray, List.set_cons_zero, List.set_cons_succ]
        refine take_list (i := 6) (v := undef) rfl (by kernel_rfl) (by kernel_rfl) (by kernel_rfl) (fun _ _ _ h => h) (Or.inr ⟨by rfl, rfl⟩) (by assumption) ?_
        try simp only [Act.put, List.setIfInBounds_toArray, List.set_cons_zero, List.set_cons_succ]
        refine take_list (i := 7) (v := undef) rfl (by kernel_rfl) (by kernel_rfl) (by kernel_rfl) (fun _ _ _ h => h) (Or.inr ⟨by rfl, rfl⟩) (by assumption) ?_
        try simp only [Act.put, List.setIfInBounds_toArray, List.set_cons_zero, List.set_cons_succ]
        refine take_list (i := 8) (v := undef) rfl (by kernel_rfl) (by kernel_rfl) (by kernel_rfl) (fun _ _ _ h => h) (Or.inr ⟨by rfl, rfl⟩) (by assumption) ?_
        try simp only [Act.put, List.setIfInBounds_toArray, List.set_cons_zero, List.set_cons_succ]
        refine take_list (i := 9) (v := undef) rfl (by kernel_rfl) (by kernel_rfl) (by kernel_rfl) (fun _ _ _ h => h) (Or.inr ⟨by rfl, rfl⟩) (by assumption) ?_
        try simp only [Act.put, List.setIfInBounds_toArray, List.set_cons_zero, List.set_cons_succ]
        refine take_list (i := 10) (v := undef) rfl (by kernel_rfl) (by kernel_rfl) (by kernel_rfl) (fun _ _ _ h => h) (Or.inr ⟨by rfl, rfl⟩) (by assumption) ?_
        try simp only [Act.put, List.setIfInBounds_toArray, List.set_cons_zero, List.set_cons_succ]
        refine take_list (i := 11) (v := ?_) rfl (by kernel_rfl) (by kernel_rfl) (by kernel_rfl) (fun _ _ _ h => h) (Or.inl ⟨by rfl, ?_⟩) (by assumption) ?_
        rotate_left
        · (intro w hSw; (try dsimp only at hSw); go_simp; try (with_reducible rfl))
        try simp only [Act.put, List.setIfInBounds_toArray, List.set_cons_zero, List.set_cons_succ]
        refine take_list (i := 12) (v := ?_) rfl (by kernel_rfl) (by kernel_rfl) (by kernel_rfl) (fun _ _ _ h => h) (Or.inl ⟨by rfl, ?_⟩) (by assumption) ?_
        rotate_left
        · (intro w hSw; (try dsimp only at hSw); go_simp; try (with_reducible rfl))
        try simp only [Act.put, List.setIfInBounds_toArray, List.set_cons_zero, List.set_cons_succ]
        refine wpAnyH_done (by kernel_rfl) ?_ _
        clear hHeld0
        have B6 := Lib.hid hBd
        clear hBd hB
        go_wp2
        go_roundw
        case rel => exact ⟨j + 1, by omega, by go_num, by rw [HT.out], B6.out⟩
        case measure => simp [intOf]; omega
      | false =>
        rw [hin] at HT
        simp only [Bool.false_or] at HT
        clear hin
        refine wp_region_held_drew (S := (fun wy => (wy.cell? ⟨bp, 0, none⟩ = some (.int .i64 p.proto) ∧ wy.cell? ⟨bp, 1, none⟩ = some (.int .i64 p.cap) ∧ wy.cell? ⟨bp, 2, none⟩ = some (.int .i64 p.k) ∧ wy.cell? ⟨bp, 3, none⟩ = some (.slice h.an p.nodes.length h.cn) ∧ wy.cell? ⟨bp, 4, none⟩ = some (.slice h.al p.links.length h.cl) ∧ wy.cell? ⟨bp, 5, none⟩ = some (.slice h.ad p.dests.length h.cd) ∧ wy.cell? ⟨bp, 6, none⟩ = some (.slice h.ac p.checks.length h.cc)) ∧ wy.cell? ⟨b, o + j, none⟩ = some (.int .i64 (k : Int)))) (by kernel_rfl) (HC.out _ hBd) (fun hHeld0 => ?_)
        refine take_list (i := 0) (v := ?_) rfl (by kernel_rfl) (by kernel_rfl) (by kernel_rfl) (fun _ _ _ h => h) (Or.inl ⟨by rfl, ?_⟩) (by assumption) ?_
        rotate_left
        · (intro w hSw; (try dsimp only at hSw); go_simp; try (with_reducible rfl))
        try simp only [Act.put, List.setIfInBounds_toArray, List.set_cons_zero, List.set_cons_succ]
        refine take_list (i := 1) (v := ?_) rfl (by kernel_rfl) (by kernel_rfl) (by kernel_rfl) (fun _ _ _ h => h) (Or.inl ⟨by rfl, ?_⟩) (by assumption) ?_
        rotate_left
        · (intro w hSw; (try dsimp only at hSw); go_simp; try (with_reducible rfl))
        try simp only [Act.put, List.setIfInBounds_toArray, List.set_cons_zero, List.set_cons_succ]
        refine take_list (i := 2) (v := ?_) rfl (by kernel_rfl) (by kernel_rfl) (by kernel_rfl) (fun _ _ _ h => h) (Or.inl ⟨by rfl, ?_⟩) (by assumption) ?_
        rotate_left
        · (intro w hSw; (try dsimp only at hSw); go_simp; try (with_reducible rfl))
        try simp only [Act.put, List.setIfInBounds_toArray, List.set_cons_zero, List.set_cons_succ]
        refine take_list (i := 3) (v := ?_) rfl (by kernel_rfl) (by kernel_rfl) (by kernel_rfl) (fun _ _ _ h => h) (Or.inl ⟨by rfl, ?_⟩) (by assumption) ?_
        rotate_left
        · (intro w hSw; (try dsimp only at hSw); go_simp; try (with_reducible rfl))
        try simp only [Act.put, List.setIfInBounds_toArray, List.set_cons_zero, List.set_cons_succ]
        refine take_list (i := 4) (v := ?_) rfl (by kernel_rfl) (by kernel_rfl) (by kernel_rfl) (fun _ _ _ h => h) (Or.inl ⟨by rfl, ?_⟩) (by assumption) ?_
        rotate_left
        · (intro w hSw; (try dsimp only at hSw); go_simp; try (with_reducible rfl))
        try simp only [Act.put, List.setIfInBounds_toArray, List.set_cons_zero, List.set_cons_succ]
        refine take_list (i := 5) (v := ?_) rfl (by kernel_rfl) (by kernel_rfl) (by kernel_rfl) (fun _ _ _ h => h) (Or.inl ⟨by rfl, ?_⟩) (by assumption) ?_
        rotate_left
        · (intro w hSw; (try dsimp only at hSw); go_simp; try (with_reducible rfl))
        try simp only [Act.put, List.setIfInBounds_toArray, List.set_cons_zero, List.set_cons_succ]
        refine take_list (i := 6) (v := ?_) rfl (by kernel_rfl) (by kernel_rfl) (by kernel_rfl) (fun _ _ _ h => h) (Or.inl ⟨by rfl, ?_⟩) (by assumption) ?_
        rotate_left
        · (intro w hSw; (try dsimp only at hSw); go_simp; try (with_reducible rfl))
        try simp only [Act.put, List.setIfInBounds_toArray, List.set_cons_zero, List.set_cons_succ]
        refine take_list (i := 7) (v := ?_) rfl (by kernel_rfl) (by kernel_rfl) (by kernel_rfl) (fun _ _ _ h => h) (Or.inl ⟨by rfl, ?_⟩) (by assumption) ?_
        rotate_left
        · (intro w hSw; (try dsimp only at hSw); go_simp; try (with_reducible rfl))
        try simp only [Act.put, List.setIfInBounds_toArray, List.set_cons_zero, List.set_cons_succ]
        refine take_list (i := 9) (v := ?_) rfl (by kernel_rfl) (by kernel_rfl) (by kernel_rfl) (fun _ _ _ h => h) (Or.inl ⟨by rfl, ?_⟩) (by assumption) ?_
        rotate_left
        · (intro w hSw; (try dsimp only at hSw); go_simp; try (with_reducible rfl))
        try simp only [Act.put, List.setIfInBounds_toArray, List.set_cons_zero, List.set_cons_succ]
        refine wpAnyH_ready (rs := [8]) (by kernel_rfl) (by simp) ?_
        refine cons_list rfl (fun K hK => ?_) AllReadyH.nil
        go_simp
        (go_at_call 16; refine (CO.out _ hBd).mono ?_; rintro e w6 ⟨rfl, hB6⟩)
        refine hK.out _ _ (HC.out _ (by assumption)) (fun hHeld1 => ?_)
        clear hK K hHeld0
        try simp only [Act.put, List.setIfInBounds_toArray, List.set_cons_zero, List.set_cons_succ]
        refine take_list (i := 10) (v := ?_) rfl (by kernel_rfl) (by kernel_rfl) (by kernel_rfl) (fun _ _ _ h => h) (Or.inl ⟨by rfl, ?_⟩) (by assumption) ?_
        rotate_left
        · (intro w hSw; (try dsimp only at hSw); go_simp; try (with_reducible rfl))
        try simp only [Act.put, List.setIfInBounds_toArray, List.set_cons_zero, List.set_cons_succ]
        refine take_list (i := 11) (v := ?_) rfl (by kernel_rfl) (by kernel_rfl) (by kernel_rfl) (fun _ _ _ h => h) (Or.inl ⟨by rfl, ?_⟩) (by assumption) ?_
        rotate_left
        · (intro w hSw; (try dsimp only at hSw); go_simp; try (with_reducible rfl))
        try simp only [Act.put, List.setIfInBounds_toArray, List.set_cons_zero, List.set_cons_succ]
        refine take_list (i := 12) (v := ?_) rfl (by kernel_rfl) (by kernel_rfl) (by kernel_rfl) (fun _ _ _ h => h) (Or.inl ⟨by rfl, ?_⟩) (by assumption) ?_
        rotate_left
        · (intro w hSw; (try dsimp only at hSw); go_simp; try (with_reducible rfl))
        try simp only [Act.put, List.setIfInBounds_toArray, List.set_cons_zero, List.set_cons_succ]
        refine wpAnyH_done (by kernel_rfl) ?_ _
        clear hHeld1
        have B6 := Lib.hid hB6
        clear hBd hB hB6
        go_wp2
        go_roundw
        case rel => exact ⟨j + 1, by omega, by go_num, by rw [HT.out], B6.out⟩
        case measure => simp [intOf]; omega
    · have hte : ar.take j = ar := List.take_of_length_le (by omega)
      rw [hte]
      clear hte hB
      obtain ⟨nr, hnr⟩ : ∃ nr, ar.any (fun k => othL p.links k n == (m : Int)) = nr := ⟨_, rfl⟩
      rw [hnr] at HQ ⊢
      clear hnr
      have J1 := Lib.hid (H1.out.call P5.out.pb.below)
      obtain ⟨g0, g1, g2, g3, g4, g5, g6⟩ := P5.out.pb.all
      go_wp2_with fail
      refine (held9_any p h l1 V1 a1 c1 _ P5.out.net GD.out J1.out).mono ?_
      rintro e w6 ⟨Z, A, c, rfl, hZ, hL⟩
      have P6 := Lib.hid (P5.out.call hL.below)
      have HZ := Lib.hid hZ
      have LZ := Lib.hid hL.rts
      have hZl := len_of hZ
      have hZ12 : Z.length ≤ 12 := by omega
      have HZl := Lib.hid hZl
      have HF0 := Lib.hid (held_fits NG.out l1)
      generalize heldS p l1 = s0 at *
      clear hZ hL hZl g0 g1 g2 g3 g4 g5 g6
      go_wp2_with (at_builtin; refine wpList_app _ rfl _ _ 32 rfl (w6.heap.size) 36 i3 _ 3 40 Tryz.underlying32 hi3 hz3 hs3 hb3 rfl (by decide) none 0 0 [] rfl (Own.nil _ _ _ _) A Z.length _ (Z.flatMap rtCells) rfl LZ.out.row ?h1 ?h63 ?hby ?hB ?_; (case h1 => intro u hu; obtain ⟨z, -, hz⟩ := List.mem_flatMap.1 hu; simp [rtCells] at hz; rcases hz with rfl | rfl | rfl <;> rfl); (case h63 => unfold maxLen; omega); (case hby => omega); (case hB => exact Nat.le_refl _); intro A2 c2 w7 hown2 hgrow2 hblk2 _; rw [Nat.zero_add] at hown2 ⊢; rw [List.nil_append] at hown2)
      have hgr := hgrow2
      obtain ⟨g, off, cur, e2, hh, -⟩ := hown2.2.2.2.2.2 (by have := hown2.2.1; have := HZl.out; omega)
      subst e2
      have hgB := hown2.from_ g rfl
      have hsz7 := hgr.size
      have hB7 : Below w6.heap.size w6 w7 := (Below.refl _ _).grown hgr (Nat.le_refl _) (by intro q hq; simp [blk] at hq)
      have hmZ : m < Z.length := by have := HZl.out; omega
      have hmZ' : (m : Int) < (Z.length : Int) := by omega
      obtain ⟨z0, hz0⟩ : ∃ z, Z[m]? = some z := ⟨_, List.getElem?_eq_getElem hmZ⟩
      obtain ⟨b', o', e', -, hc⟩ := hown2.rd.elem (f := rtCells) (fun _ => rfl) hz0
      injection e' with e'
      injection e' with e1 e2
      subst e1 e2
      have q0 : w7.cell? ⟨g, off + m * 3, none⟩ = some (.int .i64 z0.1.kind) := hc 0 _ (by omega) rfl
      have q1 : w7.cell? ⟨g, off + m * 3 + 1, none⟩ = some (.int .i64 z0.1.cost) := hc 1 _ (by omega) rfl
      have q2 : w7.cell? ⟨g, off + m * 3 + 2, none⟩ = some (.slice z0.2.1 z0.1.path.length z0.2.2) := hc 2 _ (by omega) rfl
      have f0 := frozen_of_row w7 g (off + m * 3) _ _ hh
      have f1 := frozen_of_row w7 g (off + m * 3 + 1) _ _ hh
      have f2 := frozen_of_row w7 g (off + m * 3 + 2) _ _ hh
      have K8 : Hid (Own (((w7.setCell ⟨g, off + m * 3, none⟩ (.int .i64 0)).setCell ⟨g, off + m * 3 + 1, none⟩ (.int .i64 0)).setCell ⟨g, off + m * 3 + 2, none⟩ (.slice none 0 0)) w6.heap.size 36 3 (some ⟨g, off, none⟩) (Z.set m ((rtNone, (none, 0)) : RtZ)).length c2 ((Z.set m ((rtNone, (none, 0)) : RtZ)).flatMap rtCells)) := Lib.hid (rts_put hown2 hmZ (rtNone, (none, 0)))
      have B8 : Hid (Below w6.heap.size w6 (((w7.setCell ⟨g, off + m * 3, none⟩ (.int .i64 0)).setCell ⟨g, off + m * 3 + 1, none⟩ (.int .i64 0)).setCell ⟨g, off + m * 3 + 2, none⟩ (.slice none 0 0))) := Lib.hid (((hB7.setCell hgB _).setCell hgB _).setCell hgB _)
      have LZ6 := Lib.hid LZ.out
      clear hown2 hgrow2 hblk2 hgr hB7 hc hz0
      go_upto_region 15 with fail
      generalize (((w7.setCell ⟨g, off + m * 3, none⟩ (.int .i64 0)).setCell ⟨g, off + m * 3 + 1, none⟩ (.int .i64 0)).setCell ⟨g, off + m * 3 + 2, none⟩ (.slice none 0 0)) = w8 at *
      have P8 := Lib.hid (P6.out.call B8.out)
      have L8 := Lib.hid (LZ.out.call B8.out)
      have R8 : Hid (RtsR w8 w8.heap.size (Z.set m ((rtNone, (none, 0)) : RtZ)) (some ⟨g, off, none⟩)) := Lib.hid ⟨K8.out.rd, fun z hz => by
        rcases List.mem_or_eq_of_mem_set hz with h | rfl
        · exact L8.out.each z h
        · exact rtR_nil⟩
      have HK : Hid ((Z.set m ((rtNone, (none, 0)) : RtZ)).map (·.1) = stL p (fun i => if i = m then rtNone else s0 i)) := Lib.hid (by rw [List.map_set, HZ.out]; exact stL_set p s0 m rtNone)
      have HFK : Hid (FitsF p (fun i => if i = m then rtNone else s0 i)) := Lib.hid (fun i => by
        show Holds p (asOf p i) (if i = m then rtNone else s0 i)
        split
        · exact holds_none p _
        · exact HF0.out i)
      clear q0 q1 q2 f0 f1 f2 hh
      obtain ⟨g0, g1, g2, g3, g4, g5, g6⟩ := P8.out.pb.all
      go_wp2_with fail
      refine (stepR_any p h x 0 s0 Z A c _ P8.out.net GD.out HD0.out L8.out HZ.out HF0.out).mono ?_
      rintro e w9 ⟨X, A9, c9, rfl, hX, hL⟩
      have N9 : Hid (NR w w9 bp p h X A9) := Lib.hid ⟨P8.out.call hL.below, hL.rts⟩
      have R9 := Lib.hid (R8.out.call hL.below)
      have HX := Lib.hid hX
      have HXl := Lib.hid (len_of hX)
      clear hX hL g0 g1 g2 g3 g4 g5 g6
      obtain ⟨g0, g1, g2, g3, g4, g5, g6⟩ := N9.out.nw.pb.all
      generalize hl' : (fun i => if i = m then rtNone else s0 i) = s1 at *
      clear hl'
      go_wp2_with fail
      have hh := stepR_any p h x 0 s1 (Z.set m ((rtNone, (none, 0)) : RtZ)) (some ⟨g, off, none⟩) c2 _ N9.out.nw.net GD.out HD0.out R9.out HK.out HFK.out
      rw [List.length_set] at hh
      refine hh.mono ?_
      rintro e w10 ⟨Y, A10, c10, rfl, hY, hL⟩
      have N10 : Hid (NR w w10 bp p h X A9) := Lib.hid (N9.out.call hL.below)
      have Y10 := Lib.hid hL.rts
      have HY := Lib.hid hY
      have HYl := Lib.hid (len_of hY)
      have hqa : ((X.length : Int) == (p.nodes.length : Int)) = true := by have h1 := HXl.out; simp; omega
      have hqb : ((Y.length : Int) == (X.length : Int)) = true := by have h1 := HXl.out; have h2 := HYl.out; simp; omega
      obtain ⟨xz, hxz⟩ : ∃ z, X[n]? = some z := ⟨_, List.getElem?_eq_getElem (by have h1 := HXl.out; omega)⟩
      obtain ⟨yz, hyz⟩ : ∃ z, Y[n]? = some z := ⟨_, List.getElem?_eq_getElem (by have h1 := HYl.out; omega)⟩
      have HEQ : Hid (nr = false → xz.1 = yz.1) := Lib.hid (fun hn => by
        have ex : (X.map (·.1))[n]? = some xz.1 := by rw [List.getElem?_map, hxz]; rfl
        have ey : (Y.map (·.1))[n]? = some yz.1 := by rw [List.getElem?_map, hyz]; rfl
        rw [HX.out, stL_at (by omega)] at ex
        rw [HY.out, stL_at (by omega)] at ey
        injection ex with ex
        injection ey with ey
        rw [← ex, ← ey]; exact HQ.out hn)
      obtain ⟨bx, ox, ex, hbx, x0, x1, x2⟩ := N10.out.rts.at_ hxz
      obtain ⟨by_, oy, ey, hby, y0, y1, y2⟩ := Y10.out.at_ hyz
      subst ex ey
      have HRX := Lib.hid (N10.out.rts.each xz (List.mem_of_getElem? hxz))
      have HRY := Lib.hid (Y10.out.each yz (List.mem_of_getElem? hyz))
      have HC2 : Hid (∀ wy, Below w10.heap.size w10 wy → (wy.cell? ⟨bp, 0, none⟩ = some (.int .i64 p.proto) ∧ wy.cell? ⟨bp, 1, none⟩ = some (.int .i64 p.cap) ∧ wy.cell? ⟨bp, 2, none⟩ = some (.int .i64 p.k) ∧ wy.cell? ⟨bp, 3, none⟩ = some (.slice h.an p.nodes.length h.cn) ∧ wy.cell? ⟨bp, 4, none⟩ = some (.slice h.al p.links.length h.cl) ∧ wy.cell? ⟨bp, 5, none⟩ = some (.slice h.ad p.dests.length h.cd) ∧ wy.cell? ⟨bp, 6, none⟩ = some (.slice h.ac p.checks.length h.cc)) ∧ (wy.cell? ⟨bx, ox + n * 3, none⟩ = some (.int .i64 xz.1.kind) ∧ wy.cell? ⟨bx, ox + n * 3 + 1, none⟩ = some (.int .i64 xz.1.cost) ∧ wy.cell? ⟨bx, ox + n * 3 + 2, none⟩ = some (.slice xz.2.1 xz.1.path.length xz.2.2)) ∧ wy.cell? ⟨by_, oy + n * 3, none⟩ = some (.int .i64 yz.1.kind) ∧ wy.cell? ⟨by_, oy + n * 3 + 1, none⟩ = some (.int .i64 yz.1.cost) ∧ wy.cell? ⟨by_, oy + n * 3 + 2, none⟩ = some (.slice yz.2.1 yz.1.path.length yz.2.2)) := Lib.hid (fun wy hb2 =>
        ⟨(N10.out.nw.call hb2).pb.all, ⟨(hb2.cell (p := ⟨bx, _, none⟩) hbx).trans x0, (hb2.cell (p := ⟨bx, _, none⟩) hbx).trans x1, (hb2.cell (p := ⟨bx, _, none⟩) hbx).trans x2⟩, (hb2.cell (p := ⟨by_, _, none⟩) hby).trans y0, (hb2.cell (p := ⟨by_, _, none⟩) hby).trans y1, (hb2.cell (p := ⟨by_, _, none⟩) hby).trans y2⟩)
      have hnX : (n : Int) < (X.length : Int) := by have h1 := HXl.out; omega
      have hnX' : n < X.length := by omega
      have hnY : (n : Int) < (Y.length : Int) := by have h1 := HYl.out; omega
      have hnY' : n < Y.length := by omega
      clear hh hY hL g0 g1 g2 g3 g4 g5 g6 hxz hyz x0 x1 x2 y0 y1 y2 hbx hby
      obtain ⟨g0, g1, g2, g3, g4, g5, g6⟩ := N10.out.nw.pb.all
      go_upto_region 17 with fail
      have hBd : Below w10.heap.size w10 w10.drew := below_drew (Below.refl _ _)
      clear g0 g1 g2 g3 g4 g5 g6
      cases nr with
      | true =>
        refine wp_region_held_drew (S := (fun wy => (wy.cell? ⟨bp, 0, none⟩ = some (.int .i64 p.proto) ∧ wy.cell? ⟨bp, 1, none⟩ = some (.int .i64 p.cap) ∧ wy.cell? ⟨bp, 2, none⟩ = some (.int .i64 p.k) ∧ wy.cell? ⟨bp, 3, none⟩ = some (.slice h.an p.nodes.length h.cn) ∧ wy.cell? ⟨bp, 4, none⟩ = some (.slice h.al p.links.length h.cl) ∧ wy.cell? ⟨bp, 5, none⟩ = some (.slice h.ad p.dests.length h.cd) ∧ wy.cell? ⟨bp, 6, none⟩ = some (.slice h.ac p.checks.length h.cc)) ∧ (wy.cell? ⟨bx, ox + n * 3, none⟩ = some (.int .i64 xz.1.kind) ∧ wy.cell? ⟨bx, ox + n * 3 + 1, none⟩ = some (.int .i64 xz.1.cost) ∧ wy.cell? ⟨bx, ox + n * 3 + 2, none⟩ = some (.slice xz.2.1 xz.1.path.length xz.2.2)) ∧ wy.cell? ⟨by_, oy + n * 3, none⟩ = some (.int .i64 yz.1.kind) ∧ wy.cell? ⟨by_, oy + n * 3 + 1, none⟩ = some (.int .i64 yz.1.cost) ∧ wy.cell? ⟨by_, oy + n * 3 + 2, none⟩ = some (.slice yz.2.1 yz.1.path.length yz.2.2))) (by kernel_rfl) (HC2.out _ hBd) (fun hHeld0 => ?_)
        refine take_list (i := 0) (v := ?_) rfl (by kernel_rfl) (by kernel_rfl) (by kernel_rfl) (fun _ _ _ h => h) (Or.inl ⟨by rfl, ?_⟩) (by assumption) ?_
        rotate_left
        · (intro w hSw; (try dsimp only at hSw); go_simp; try (with_reducible rfl))
        try simp only [Act.put, List.setIfInBounds_toArray, List.set_cons_zero, List.set_cons_succ]
        refine take_list (i := 1) (v := ?_) rfl (by kernel_rfl) (by kernel_rfl) (by kernel_rfl) (fun _ _ _ h => h) (Or.inl ⟨by rfl, ?_⟩) (by assumption) ?_
        rotate_left
        · (intro w hSw; (try dsimp only at hSw); go_simp; try (with_reducible rfl))
        try simp only [Act.put, List.setIfInBounds_toArray, List.set_cons_zero, List.set_cons_succ]
        refine take_list (i := 2) (v := ?_) rfl (by kernel_rfl) (by kernel_rfl) (by kernel_rfl) (fun _ _ _ h => h) (Or.inl ⟨by rfl, ?_⟩) (by assumption) ?_
        rotate_left
        · (intro w hSw; (try dsimp only at hSw); go_simp; try (with_reducible rfl))
        try simp only [Act.put, List.setIfInBounds_toArray, List.set_cons_zero, List.set_cons_succ]
        refine take_list (i := 3) (v := ?_) rfl (by kernel_rfl) (by kernel_rfl) (by kernel_rfl) (fun _ _ _ h => h) (Or.inl ⟨by rfl, ?_⟩) (by assumption) ?_
        rotate_left
        · (intro w hSw; (try dsimp only at hSw); go_simp; try (with_reducible rfl))
        try simp only [Act.put, List.setIfInBounds_toArray, List.set_cons_zero, List.set_cons_succ]
        refine take_list (i := 4) (v := ?_) rfl (by kernel_rfl) (by kernel_rfl) (by kernel_rfl) (fun _ _ _ h => h) (Or.inl ⟨by rfl, ?_⟩) (by assumption) ?_
        rotate_left
        · (intro w hSw; (try dsimp only at hSw); go_simp; try (with_reducible rfl))
        try simp only [Act.put, List.setIfInBounds_toArray, List.set_cons_zero, List.set_cons_succ]
        refine take_list (i := 5) (v := ?_) rfl (by kernel_rfl) (by kernel_rfl) (by kernel_rfl) (fun _ _ _ h => h) (Or.inl ⟨by rfl, ?_⟩) (by assumption) ?_
        rotate_left
        · (intro w hSw; (try dsimp only at hSw); go_simp; try (with_reducible rfl))
        try simp only [Act.put, List.setIfInBounds_toArray, List.set_cons_zero, List.set_cons_succ]
        refine take_list (i := 6) (v := ?_) rfl (by kernel_rfl) (by kernel_rfl) (by kernel_rfl) (fun _ _ _ h => h) (Or.inl ⟨by rfl, ?_⟩) (by assumption) ?_
        rotate_left
        · (intro w hSw; (try dsimp only at hSw); go_simp; try (with_reducible rfl))
        try simp only [Act.put, List.setIfInBounds_toArray, List.set_cons_zero, List.set_cons_succ]
        refine take_list (i := 7) (v := ?_) rfl (by kernel_rfl) (by kernel_rfl) (by kernel_rfl) (fun _ _ _ h => h) (Or.inl ⟨by rfl, ?_⟩) (by assumption) ?_
        rotate_left
        · (intro w hSw; (try dsimp only at hSw); go_simp; try (with_reducible rfl))
        try simp only [Act.put, List.setIfInBounds_toArray, List.set_cons_zero, List.set_cons_succ]
        refine take_list (i := 8) (v := ?_) rfl (by kernel_rfl) (by kernel_rfl) (by kernel_rfl) (fun _ _ _ h => h) (Or.inl ⟨by rfl, ?_⟩) (by assumption) ?_
        rotate_left
        · (intro w hSw; (try dsimp only at hSw); go_simp; try (with_reducible rfl))
        try simp only [Act.put, List.setIfInBounds_toArray, List.set_cons_zero, List.set_cons_succ]
        refine take_list (i := 9) (v := ?_) rfl (by kernel_rfl) (by kernel_rfl) (by kernel_rfl) (fun _ _ _ h => h) (Or.inl ⟨by rfl, ?_⟩) (by assumption) ?_
        rotate_left
        · (intro w hSw; (try dsimp only at hSw); go_simp; try (with_reducible rfl))
        try simp only [Act.put, List.setIfInBounds_toArray, List.set_cons_zero, List.set_cons_succ]
        refine take_list (i := 10) (v := ?_) rfl (by kernel_rfl) (by kernel_rfl) (by kernel_rfl) (fun _ _ _ h => h) (Or.inl ⟨by rfl, ?_⟩) (by assumption) ?_
        rotate_left
        · (intro w hSw; (try dsimp only at hSw); go_simp; try (with_reducible rfl))
        try simp only [Act.put, List.setIfInBounds_toArray, List.set_cons_zero, List.set_cons_succ]
        refine take_list (i := 11) (v := ?_) rfl (by kernel_rfl) (by kernel_rfl) (by kernel_rfl) (fun _ _ _ h => h) (Or.inl ⟨by rfl, ?_⟩) (by assumption) ?_
        rotate_left
        · (intro w hSw; (try dsimp only at hSw); go_simp; try (with_reducible rfl))
        try simp only [Act.put, List.setIfInBounds_toArray, List.set_cons_zero, List.set_cons_succ]
        refine take_list (i := 12) (v := ?_) rfl (by kernel_rfl) (by kernel_rfl) (by kernel_rfl) (fun _ _ _ h => h) (Or.inl ⟨by rfl, ?_⟩) (by assumption) ?_
        rotate_left
        · (intro w hSw; (try dsimp only at hSw); go_simp; try (with_reducible rfl))
        try simp only [Act.put, List.setIfInBounds_toArray, List.set_cons_zero, List.set_cons_succ]
        refine take_list (i := 13) (v := ?_) rfl (by kernel_rfl) (by kernel_rfl) (by kernel_rfl) (fun _ _ _ h => h) (Or.inl ⟨by rfl, ?_⟩) (by assumption) ?_
        rotate_left
        · (intro w hSw; (try dsimp only at hSw); go_simp; try (with_reducible rfl))
        try simp only [Act.put, List.setIfInBounds_toArray, List.set_cons_zero, List.set_cons_succ]
        refine take_list (i := 14) (v := ?_) rfl (by kernel_rfl) (by kernel_rfl) (by kernel_rfl) (fun _ _ _ h => h) (Or.inl ⟨by rfl, ?_⟩) (by assumption) ?_
        rotate_left
        · (intro w hSw; (try dsimp only at hSw); go_simp; try (with_reducible rfl))
        try simp only [Act.put, List.setIfInBounds_toArray, List.set_cons_zero, List.set_cons_succ]
        refine take_list (i := 15) (v := ?_) rfl (by kernel_rfl) (by kernel_rfl) (by kernel_rfl) (fun _ _ _ h => h) (Or.inl ⟨by rfl, ?_⟩) (by assumption) ?_
        rotate_left
        · (intro w hSw; (try dsimp only at hSw); go_simp; try (with_reducible rfl))
        try simp only [Act.put, List.setIfInBounds_toArray, List.set_cons_zero, List.set_cons_succ]
        refine take_list (i := 16) (v := ?_) rfl (by kernel_rfl) (by kernel_rfl) (by kernel_rfl) (fun _ _ _ h => h) (Or.inl ⟨by rfl, ?_⟩) (by assumption) ?_
        rotate_left
        · (intro w hSw; (try dsimp only at hSw); go_simp; try (with_reducible rfl))
        try simp only [Act.put, List.setIfInBounds_toArray, List.set_cons_zero, List.set_cons_succ]
        refine take_list (i := 17) (v := ?_) rfl (by kernel_rfl) (by kernel_rfl) (by kernel_rfl) (fun _ _ _ h => h) (Or.inl ⟨by rfl, ?_⟩) (by assumption) ?_
        rotate_left
        · (intro w hSw; (try dsimp only at hSw); go_simp; try (with_reducible rfl))
        try simp only [Act.put, List.setIfInBounds_toArray, List.set_cons_zero, List.set_cons_succ]
        refine take_list (i := 18) (v := ?_) rfl (by kernel_rfl) (by kernel_rfl) (by kernel_rfl) (fun _ _ _ h => h) (Or.inl ⟨by rfl, ?_⟩) (by assumption) ?_
        rotate_left
        · (intro w hSw; (try dsimp only at hSw); go_simp; try (with_reducible rfl))
        try simp only [Act.put, List.setIfInBounds_toArray, List.set_cons_zero, List.set_cons_succ]
        refine take_list (i := 19) (v := undef) rfl (by kernel_rfl) (by kernel_rfl) (by kernel_rfl) (fun _ _ _ h => h) (Or.inr ⟨by rfl, rfl⟩) (by assumption) ?_
        try simp only [Act.put, List.setIfInBounds_toArray, List.set_cons_zero, List.set_cons_succ]
        refine take_list (i := 20) (v := undef) rfl (by kernel_rfl) (by kernel_rfl) (by kernel_rfl) (fun _ _ _ h => h) (Or.inr ⟨by rfl, rfl⟩) (by assumption) ?_
        try simp only [Act.put, List.setIfInBounds_toArray, List.set_cons_zero, List.set_cons_succ]
        refine take_list (i := 21) (v := undef) rfl (by kernel_rfl) (by kernel_rfl) (by kernel_rfl) (fun _ _ _ h => h) (Or.inr ⟨by rfl, rfl⟩) (by assumption) ?_
        try simp only [Act.put, List.setIfInBounds_toArray, List.set_cons_zero, List.set_cons_succ]
        refine take_list (i := 22) (v := undef) rfl (by kernel_rfl) (by kernel_rfl) (by kernel_rfl) (fun _ _ _ h => h) (Or.inr ⟨by rfl, rfl⟩) (by assumption) ?_
        try simp only [Act.put, List.setIfInBounds_toArray, List.set_cons_zero, List.set_cons_succ]
        refine take_list (i := 23) (v := undef) rfl (by kernel_rfl) (by kernel_rfl) (by kernel_rfl) (fun _ _ _ h => h) (Or.inr ⟨by rfl, rfl⟩) (by assumption) ?_
        try simp only [Act.put, List.setIfInBounds_toArray, List.set_cons_zero, List.set_cons_succ]
        refine take_list (i := 24) (v := undef) rfl (by kernel_rfl) (by kernel_rfl) (by kernel_rfl) (fun _ _ _ h => h) (Or.inr ⟨by rfl, rfl⟩) (by assumption) ?_
        try simp only [Act.put, List.setIfInBounds_toArray, List.set_cons_zero, List.set_cons_succ]
        refine take_list (i := 25) (v := undef) rfl (by kernel_rfl) (by kernel_rfl) (by kernel_rfl) (fun _ _ _ h => h) (Or.inr ⟨by rfl, rfl⟩) (by assumption) ?_
        try simp only [Act.put, List.setIfInBounds_toArray, List.set_cons_zero, List.set_cons_succ]
        refine take_list (i := 26) (v := undef) rfl (by kernel_rfl) (by kernel_rfl) (by kernel_rfl) (fun _ _ _ h => h) (Or.inr ⟨by rfl, rfl⟩) (by assumption) ?_
        try simp only [Act.put, List.setIfInBounds_toArray, List.set_cons_zero, List.set_cons_succ]
        refine take_list (i := 27) (v := undef) rfl (by kernel_rfl) (by kernel_rfl) (by kernel_rfl) (fun _ _ _ h => h) (Or.inr ⟨by rfl, rfl⟩) (by assumption) ?_
        try simp only [Act.put, List.setIfInBounds_toArray, List.set_cons_zero, List.set_cons_succ]
        refine take_list (i := 28) (v := ?_) rfl (by kernel_rfl) (by kernel_rfl) (by kernel_rfl) (fun _ _ _ h => h) (Or.inl ⟨by rfl, ?_⟩) (by assumption) ?_
        rotate_left
        · (intro w hSw; (try dsimp only at hSw); go_simp; try (with_reducible rfl))
        try simp only [Act.put, List.setIfInBounds_toArray, List.set_cons_zero, List.set_cons_succ]
        refine take_list (i := 29) (v := ?_) rfl (by kernel_rfl) (by kernel_rfl) (by kernel_rfl) (fun _ _ _ h => h) (Or.inl ⟨by rfl, ?_⟩) (by assumption) ?_
        rotate_left
        · (intro w hSw; (try dsimp only at hSw); go_simp; try (with_reducible rfl))
        try simp only [Act.put, List.setIfInBounds_toArray, List.set_cons_zero, List.set_cons_succ]
        refine take_list (i := 30) (v := ?_) rfl (by kernel_rfl) (by kernel_rfl) (by kernel_rfl) (fun _ _ _ h => h) (Or.inl ⟨by rfl, ?_⟩) (by assumption) ?_
        rotate_left
        · (intro w hSw; (try dsimp only at hSw); go_simp; try (with_reducible rfl))
        try simp only [Act.put, List.setIfInBounds_toArray, List.set_cons_zero, List.set_cons_succ]
        refine wpAnyH_done (by kernel_rfl) ?_ _
        clear hHeld0
        go_wp2
        go_ret
        exact ⟨rfl, since_trans N10.out.nw.pb.below hBd⟩
      | false =>
        have heq := HEQ.out rfl
        have CS : Hid (∀ wy, Below w10.heap.size w10 wy → Calls Tryz.prog 13 #[.agg #[.int .i64 xz.1.kind, .int .i64 xz.1.cost, .slice xz.2.1 xz.1.path.length xz.2.2], .agg #[.int .i64 yz.1.kind, .int .i64 yz.1.cost, .slice yz.2.1 yz.1.path.length yz.2.2]] wy fun e w' => e = .returned (.bool true) ∧ Below w10.heap.size w10 w') := Lib.hid (fun wy hb2 =>
          (refSame_any xz.1 yz.1 xz.2.1 yz.2.1 xz.2.2 yz.2.2 wy ((HRX.out.below hb2 (Nat.le_refl _)).more hb2.size) ((HRY.out.below hb2 (Nat.le_refl _)).more hb2.size)).mono fun e w' ⟨h1, h2⟩ => ⟨by rw [h1, heq]; simp, since_trans hb2 h2⟩)
        clear heq
        refine wp_region_held_drew (S := (fun wy => (wy.cell? ⟨bp, 0, none⟩ = some (.int .i64 p.proto) ∧ wy.cell? ⟨bp, 1, none⟩ = some (.int .i64 p.cap) ∧ wy.cell? ⟨bp, 2, none⟩ = some (.int .i64 p.k) ∧ wy.cell? ⟨bp, 3, none⟩ = some (.slice h.an p.nodes.length h.cn) ∧ wy.cell? ⟨bp, 4, none⟩ = some (.slice h.al p.links.length h.cl) ∧ wy.cell? ⟨bp, 5, none⟩ = some (.slice h.ad p.dests.length h.cd) ∧ wy.cell? ⟨bp, 6, none⟩ = some (.slice h.ac p.checks.length h.cc)) ∧ (wy.cell? ⟨bx, ox + n * 3, none⟩ = some (.int .i64 xz.1.kind) ∧ wy.cell? ⟨bx, ox + n * 3 + 1, none⟩ = some (.int .i64 xz.1.cost) ∧ wy.cell? ⟨bx, ox + n * 3 + 2, none⟩ = some (.slice xz.2.1 xz.1.path.length xz.2.2)) ∧ wy.cell? ⟨by_, oy + n * 3, none⟩ = some (.int .i64 yz.1.kind) ∧ wy.cell? ⟨by_, oy + n * 3 + 1, none⟩ = some (.int .i64 yz.1.cost) ∧ wy.cell? ⟨by_, oy + n * 3 + 2, none⟩ = some (.slice yz.2.1 yz.1.path.length yz.2.2))) (by kernel_rfl) (HC2.out _ hBd) (fun hHeld0 => ?_)
        refine take_list (i := 0) (v := ?_) rfl (by kernel_rfl) (by kernel_rfl) (by kernel_rfl) (fun _ _ _ h => h) (Or.inl ⟨by rfl, ?_⟩) (by assumption) ?_
        rotate_left
        · (intro w hSw; (try dsimp only at hSw); go_simp; try (with_reducible rfl))
        try simp only [Act.put, List.setIfInBounds_toArray, List.set_cons_zero, List.set_cons_succ]
        refine take_list (i := 1) (v := ?_) rfl (by kernel_rfl) (by kernel_rfl) (by kernel_rfl) (fun _ _ _ h => h) (Or.inl ⟨by rfl, ?_⟩) (by assumption) ?_
        rotate_left
        · (intro w hSw; (try dsimp only at hSw); go_simp; try (with_reducible rfl))
        try simp only [Act.put, List.setIfInBounds_toArray, List.set_cons_zero, List.set_cons_succ]
        refine take_list (i := 2) (v := ?_) rfl (by kernel_rfl) (by kernel_rfl) (by kernel_rfl) (fun _ _ _ h => h) (Or.inl ⟨by rfl, ?_⟩) (by assumption) ?_
        rotate_left
        · (intro w hSw; (try dsimp only at hSw); go_simp; try (with_reducible rfl))
        try simp only [Act.put, List.setIfInBounds_toArray, List.set_cons_zero, List.set_cons_succ]
        refine take_list (i := 3) (v := ?_) rfl (by kernel_rfl) (by kernel_rfl) (by kernel_rfl) (fun _ _ _ h => h) (Or.inl ⟨by rfl, ?_⟩) (by assumption) ?_
        rotate_left
        · (intro w hSw; (try dsimp only at hSw); go_simp; try (with_reducible rfl))
        try simp only [Act.put, List.setIfInBounds_toArray, List.set_cons_zero, List.set_cons_succ]
        refine take_list (i := 4) (v := ?_) rfl (by kernel_rfl) (by kernel_rfl) (by kernel_rfl) (fun _ _ _ h => h) (Or.inl ⟨by rfl, ?_⟩) (by assumption) ?_
        rotate_left
        · (intro w hSw; (try dsimp only at hSw); go_simp; try (with_reducible rfl))
        try simp only [Act.put, List.setIfInBounds_toArray, List.set_cons_zero, List.set_cons_succ]
        refine take_list (i := 5) (v := ?_) rfl (by kernel_rfl) (by kernel_rfl) (by kernel_rfl) (fun _ _ _ h => h) (Or.inl ⟨by rfl, ?_⟩) (by assumption) ?_
        rotate_left
        · (intro w hSw; (try dsimp only at hSw); go_simp; try (with_reducible rfl))
        try simp only [Act.put, List.setIfInBounds_toArray, List.set_cons_zero, List.set_cons_succ]
        refine take_list (i := 6) (v := ?_) rfl (by kernel_rfl) (by kernel_rfl) (by kernel_rfl) (fun _ _ _ h => h) (Or.inl ⟨by rfl, ?_⟩) (by assumption) ?_
        rotate_left
        · (intro w hSw; (try dsimp only at hSw); go_simp; try (with_reducible rfl))
        try simp only [Act.put, List.setIfInBounds_toArray, List.set_cons_zero, List.set_cons_succ]
        refine take_list (i := 7) (v := ?_) rfl (by kernel_rfl) (by kernel_rfl) (by kernel_rfl) (fun _ _ _ h => h) (Or.inl ⟨by rfl, ?_⟩) (by assumption) ?_
        rotate_left
        · (intro w hSw; (try dsimp only at hSw); go_simp; try (with_reducible rfl))
        try simp only [Act.put, List.setIfInBounds_toArray, List.set_cons_zero, List.set_cons_succ]
        refine take_list (i := 8) (v := ?_) rfl (by kernel_rfl) (by kernel_rfl) (by kernel_rfl) (fun _ _ _ h => h) (Or.inl ⟨by rfl, ?_⟩) (by assumption) ?_
        rotate_left
        · (intro w hSw; (try dsimp only at hSw); go_simp; try (with_reducible rfl))
        try simp only [Act.put, List.setIfInBounds_toArray, List.set_cons_zero, List.set_cons_succ]
        refine take_list (i := 9) (v := ?_) rfl (by kernel_rfl) (by kernel_rfl) (by kernel_rfl) (fun _ _ _ h => h) (Or.inl ⟨by rfl, ?_⟩) (by assumption) ?_
        rotate_left
        · (intro w hSw; (try dsimp only at hSw); go_simp; try (with_reducible rfl))
        try simp only [Act.put, List.setIfInBounds_toArray, List.set_cons_zero, List.set_cons_succ]
        refine take_list (i := 10) (v := ?_) rfl (by kernel_rfl) (by kernel_rfl) (by kernel_rfl) (fun _ _ _ h => h) (Or.inl ⟨by rfl, ?_⟩) (by assumption) ?_
        rotate_left
        · (intro w hSw; (try dsimp only at hSw); go_simp; try (with_reducible rfl))
        try simp only [Act.put, List.setIfInBounds_toArray, List.set_cons_zero, List.set_cons_succ]
        refine take_list (i := 11) (v := ?_) rfl (by kernel_rfl) (by kernel_rfl) (by kernel_rfl) (fun _ _ _ h => h) (Or.inl ⟨by rfl, ?_⟩) (by assumption) ?_
        rotate_left
        · (intro w hSw; (try dsimp only at hSw); go_simp; try (with_reducible rfl))
        try simp only [Act.put, List.setIfInBounds_toArray, List.set_cons_zero, List.set_cons_succ]
        refine take_list (i := 12) (v := ?_) rfl (by kernel_rfl) (by kernel_rfl) (by kernel_rfl) (fun _ _ _ h => h) (Or.inl ⟨by rfl, ?_⟩) (by assumption) ?_
        rotate_left
        · (intro w hSw; (try dsimp only at hSw); go_simp; try (with_reducible rfl))
        try simp only [Act.put, List.setIfInBounds_toArray, List.set_cons_zero, List.set_cons_succ]
        refine take_list (i := 13) (v := ?_) rfl (by kernel_rfl) (by kernel_rfl) (by kernel_rfl) (fun _ _ _ h => h) (Or.inl ⟨by rfl, ?_⟩) (by assumption) ?_
        rotate_left
        · (intro w hSw; (try dsimp only at hSw); go_simp; try (with_reducible rfl))
        try simp only [Act.put, List.setIfInBounds_toArray, List.set_cons_zero, List.set_cons_succ]
        refine take_list (i := 14) (v := ?_) rfl (by kernel_rfl) (by kernel_rfl) (by kernel_rfl) (fun _ _ _ h => h) (Or.inl ⟨by rfl, ?_⟩) (by assumption) ?_
        rotate_left
        · (intro w hSw; (try dsimp only at hSw); go_simp; try (with_reducible rfl))
        try simp only [Act.put, List.setIfInBounds_toArray, List.set_cons_zero, List.set_cons_succ]
        refine take_list (i := 15) (v := ?_) rfl (by kernel_rfl) (by kernel_rfl) (by kernel_rfl) (fun _ _ _ h => h) (Or.inl ⟨by rfl, ?_⟩) (by assumption) ?_
        rotate_left
        · (intro w hSw; (try dsimp only at hSw); go_simp; try (with_reducible rfl))
        try simp only [Act.put, List.setIfInBounds_toArray, List.set_cons_zero, List.set_cons_succ]
        refine take_list (i := 16) (v := ?_) rfl (by kernel_rfl) (by kernel_rfl) (by kernel_rfl) (fun _ _ _ h => h) (Or.inl ⟨by rfl, ?_⟩) (by assumption) ?_
        rotate_left
        · (intro w hSw; (try dsimp only at hSw); go_simp; try (with_reducible rfl))
        try simp only [Act.put, List.setIfInBounds_toArray, List.set_cons_zero, List.set_cons_succ]
        refine take_list (i := 17) (v := ?_) rfl (by kernel_rfl) (by kernel_rfl) (by kernel_rfl) (fun _ _ _ h => h) (Or.inl ⟨by rfl, ?_⟩) (by assumption) ?_
        rotate_left
        · (intro w hSw; (try dsimp only at hSw); go_simp; try (with_reducible rfl))
        try simp only [Act.put, List.setIfInBounds_toArray, List.set_cons_zero, List.set_cons_succ]
        refine take_list (i := 18) (v := ?_) rfl (by kernel_rfl) (by kernel_rfl) (by kernel_rfl) (fun _ _ _ h => h) (Or.inl ⟨by rfl, ?_⟩) (by assumption) ?_
        rotate_left
        · (intro w hSw; (try dsimp only at hSw); go_simp; try (with_reducible rfl))
        try simp only [Act.put, List.setIfInBounds_toArray, List.set_cons_zero, List.set_cons_succ]
        refine take_list (i := 19) (v := ?_) rfl (by kernel_rfl) (by kernel_rfl) (by kernel_rfl) (fun _ _ _ h => h) (Or.inl ⟨by rfl, ?_⟩) (by assumption) ?_
        rotate_left
        · (intro w hSw; (try dsimp only at hSw); go_simp; try (with_reducible rfl))
        try simp only [Act.put, List.setIfInBounds_toArray, List.set_cons_zero, List.set_cons_succ]
        refine take_list (i := 20) (v := ?_) rfl (by kernel_rfl) (by kernel_rfl) (by kernel_rfl) (fun _ _ _ h => h) (Or.inl ⟨by rfl, ?_⟩) (by assumption) ?_
        rotate_left
        · (intro w hSw; (try dsimp only at hSw); go_simp; try (with_reducible rfl))
        try simp only [Act.put, List.setIfInBounds_toArray, List.set_cons_zero, List.set_cons_succ]
        refine take_list (i := 21) (v := ?_) rfl (by kernel_rfl) (by kernel_rfl) (by kernel_rfl) (fun _ _ _ h => h) (Or.inl ⟨by rfl, ?_⟩) (by assumption) ?_
        rotate_left
        · (intro w hSw; (try dsimp only at hSw); go_simp; try (with_reducible rfl))
        try simp only [Act.put, List.setIfInBounds_toArray, List.set_cons_zero, List.set_cons_succ]
        refine take_list (i := 22) (v := ?_) rfl (by kernel_rfl) (by kernel_rfl) (by kernel_rfl) (fun _ _ _ h => h) (Or.inl ⟨by rfl, ?_⟩) (by assumption) ?_
        rotate_left
        · (intro w hSw; (try dsimp only at hSw); go_simp; try (with_reducible rfl))
        try simp only [Act.put, List.setIfInBounds_toArray, List.set_cons_zero, List.set_cons_succ]
        refine take_list (i := 23) (v := ?_) rfl (by kernel_rfl) (by kernel_rfl) (by kernel_rfl) (fun _ _ _ h => h) (Or.inl ⟨by rfl, ?_⟩) (by assumption) ?_
        rotate_left
        · (intro w hSw; (try dsimp only at hSw); go_simp; try (with_reducible rfl))
        try simp only [Act.put, List.setIfInBounds_toArray, List.set_cons_zero, List.set_cons_succ]
        refine take_list (i := 24) (v := ?_) rfl (by kernel_rfl) (by kernel_rfl) (by kernel_rfl) (fun _ _ _ h => h) (Or.inl ⟨by rfl, ?_⟩) (by assumption) ?_
        rotate_left
        · (intro w hSw; (try dsimp only at hSw); go_simp; try (with_reducible rfl))
        try simp only [Act.put, List.setIfInBounds_toArray, List.set_cons_zero, List.set_cons_succ]
        refine take_list (i := 25) (v := ?_) rfl (by kernel_rfl) (by kernel_rfl) (by kernel_rfl) (fun _ _ _ h => h) (Or.inl ⟨by rfl, ?_⟩) (by assumption) ?_
        rotate_left
        · (intro w hSw; (try dsimp only at hSw); go_simp; try (with_reducible rfl))
        try simp only [Act.put, List.setIfInBounds_toArray, List.set_cons_zero, List.set_cons_succ]
        refine take_list (i := 26) (v := ?_) rfl (by kernel_rfl) (by kernel_rfl) (by kernel_rfl) (fun _ _ _ h => h) (Or.inl ⟨by rfl, ?_⟩) (by assumption) ?_
        rotate_left
        · (intro w hSw; (try dsimp only at hSw); go_simp; try (with_reducible rfl))
        try simp only [Act.put, List.setIfInBounds_toArray, List.set_cons_zero, List.set_cons_succ]
        refine wpAnyH_ready (rs := [27]) (by kernel_rfl) (by simp) ?_
        refine cons_list rfl (fun K hK => ?_) AllReadyH.nil
        go_simp
        (go_at_call 13; refine (CS.out _ hBd).mono ?_; rintro e w11 ⟨rfl, hB11⟩)
        refine hK.out _ _ (HC2.out _ (by assumption)) (fun hHeld1 => ?_)
        clear hK K hHeld0
        try simp only [Act.put, List.setIfInBounds_toArray, List.set_cons_zero, List.set_cons_succ]
        refine take_list (i := 28) (v := ?_) rfl (by kernel_rfl) (by kernel_rfl) (by kernel_rfl) (fun _ _ _ h => h) (Or.inl ⟨by rfl, ?_⟩) (by assumption) ?_
        rotate_left
        · (intro w hSw; (try dsimp only at hSw); go_simp; try (with_reducible rfl))
        try simp only [Act.put, List.setIfInBounds_toArray, List.set_cons_zero, List.set_cons_succ]
        refine take_list (i := 29) (v := ?_) rfl (by kernel_rfl) (by kernel_rfl) (by kernel_rfl) (fun _ _ _ h => h) (Or.inl ⟨by rfl, ?_⟩) (by assumption) ?_
        rotate_left
        · (intro w hSw; (try dsimp only at hSw); go_simp; try (with_reducible rfl))
        try simp only [Act.put, List.setIfInBounds_toArray, List.set_cons_zero, List.set_cons_succ]
        refine take_list (i := 30) (v := ?_) rfl (by kernel_rfl) (by kernel_rfl) (by kernel_rfl) (fun _ _ _ h => h) (Or.inl ⟨by rfl, ?_⟩) (by assumption) ?_
        rotate_left
        · (intro w hSw; (try dsimp only at hSw); go_simp; try (with_reducible rfl))
        try simp only [Act.put, List.setIfInBounds_toArray, List.set_cons_zero, List.set_cons_succ]
        refine wpAnyH_done (by kernel_rfl) ?_ _
        clear hHeld1
        go_wp2
        go_ret
        exact ⟨rfl, since_trans N10.out.nw.pb.below hB11⟩
end Go.Proofs.YtifjppkgbalcpaaGreat

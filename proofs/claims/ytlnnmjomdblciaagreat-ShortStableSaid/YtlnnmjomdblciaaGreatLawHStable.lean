/- The walk of backstaylaw11.ShortStable. Printed by mkstable.py. -/
import Derived.Test.YtlnnmjomdblciaaGreatShortT
import Derived.Test.YtlnnmjomdblciaaGreatRegs
import Derived.Test.YtlnnmjomdblciaaGreatApi
namespace Go.Proofs.YtlnnmjomdblciaaGreat
set_option linter.unusedSimpArgs false
set_option linter.unusedVariables false
open Go.RowKit

attribute [local go_sem ↓] Go.wp_at_zero Go.wp_at_succ
set_option maxRecDepth 100000 in
set_option maxHeartbeats 4000000 in
theorem shortStable_walk (a0 : Option Addr) (c0 : Nat) (l0 : List Int) (n1 : Int) (b1 : Bool) (w : World) (h0 : InRow w a0 c0 l0) (k1 : In64 n1) :
    Calls Tryz.prog 8 #[.slice a0 l0.length c0, .int .i64 n1, .bool b1] w fun e w' => e = .returned (.bool true) ∧ Below w.heap.size w w' := by
  have I1 := Lib.hid k1
  have H0 := Lib.hid h0
  clear k1 h0
  go_enter Tryz.func8, Tryz.ntmps8
  go_wp2_with fail
  refine (awake11 _).mono ?_
  rintro e w1 ⟨rfl, hb1⟩
  have J0 := Lib.hid (H0.out.call hb1)
  have B1 := Lib.hid hb1
  clear hb1
  go_wp2_with fail
  refine (net_any _ _ l0 c0 J0.out.len J0.out.le J0.out.rd J0.out.in64).mono ?_
  rintro e w2 ⟨p, h, rfl, hok, hown, hb⟩
  have OK := Lib.hid hok
  have T0 : Hid (TuS w (w2.alloc (.cells #[.int .i64 p.proto, .int .i64 p.cap, .int .i64 p.k, .slice h.an p.nodes.length h.cn, .slice h.al p.links.length h.cl, .slice h.ad p.dests.length h.cd, .slice h.ac p.checks.length h.cc] 31)) w1.heap.size w2.heap.size p h 0) := Lib.hid ⟨since_alloc (since_trans B1.out hb) _, NetOwn.alloc hown _, heap_alloc_new _ _, B1.out.size⟩
  have hn2 := hok.n.1
  have hn7 := hok.n.2
  obtain ⟨g, off, he⟩ : ∃ g off, h.an = some ⟨g, off, none⟩ := by
    obtain ⟨g, off, cur, e, -⟩ := hown.nodes.2.2.2.2.2 (by have := hown.nodes.2.1; omega)
    exact ⟨g, off, e⟩
  have HE := Lib.hid he
  clear hb hown hok J0 he
  unfold netV netVal
  go_upto_region 3 with fail
  generalize (w2.alloc (.cells #[.int .i64 p.proto, .int .i64 p.cap, .int .i64 p.k, .slice h.an p.nodes.length h.cn, .slice h.al p.links.length h.cl, .slice h.ad p.dests.length h.cd, .slice h.ac p.checks.length h.cc] 31)) = w3 at *
  generalize w2.heap.size = bp at *
  clear B1
  go_wp2_with fail
  go_loopw [9] (fun si wx => ∃ k : Nat, k ≤ p.nodes.length ∧ si = .int .i64 k ∧ (b1 = false → k = 0) ∧ TuS w wx w1.heap.size bp p h k) (fun si _ => p.nodes.length - (intOf si).toNat)
  case atStart => exact ⟨0, Nat.zero_le _, rfl, fun _ => rfl, T0.out⟩
  case round =>
    obtain ⟨k, hk, rfl, hbk, hT⟩ := hrel
    have TX := Lib.hid hT
    have g3 := hT.at_
    rw [HE.out] at g3
    clear hT
    by_cases hlt : k < p.nodes.length
    · cases b1 with
      | true =>
        obtain ⟨hs, ⟨u, hu⟩, hf⟩ := TX.out.step hlt HE.out
        have hu' : wr.cell? ⟨g, off + k * 2 + 1, none⟩ = some (.int .i64 u) := hu
        have hf' : wr.frozen? ⟨g, off + k * 2 + 1, none⟩ = false := hf
        have HS := Lib.hid (show TuS w (wr.setCell ⟨g, off + k * 2 + 1, none⟩ (.int .i64 (asV k))) w1.heap.size bp p h (k + 1) from hs)
        have hk0 : (0 : Int) ≤ (k : Int) := by omega
        have hw1 : IntKind.i64.wrap (7 * (k : Int)) = 7 * (k : Int) := by rw [IntKind.wrap_i64]; omega
        have hw2 : IntKind.i64.wrap (7 * (k : Int) + 3) = 7 * (k : Int) + 3 := by rw [IntKind.wrap_i64]; omega
        have hw3 : Int.tmod (7 * (k : Int) + 3) 50 = (7 * (k : Int) + 3) % 50 := Int.tmod_eq_emod_of_nonneg (by omega)
        have hw4 : IntKind.i64.wrap (1 + (7 * (k : Int) + 3) % 50) = asV k := by rw [IntKind.wrap_i64]; unfold asV; omega
        clear hs hu hf hbk
        go_wp2
        go_roundw
        case rel => exact ⟨k + 1, by omega, by go_num, (by intro h; cases h), HS.out⟩
        case measure => simp [intOf]; omega
      | false =>
        obtain rfl : k = 0 := hbk rfl
        have TX0 : Hid (TuS w wr w1.heap.size bp p h 0) := Lib.hid TX.out
        have P0 : Hid (NW w wr bp p h []) := Lib.hid ⟨TX.out.pb, by intro z hz; cases hz⟩
        have GD := Lib.hid OK.out.good
        clear hbk
        have NG := Lib.hid GD.out.netG
        have HD0 := Lib.hid (dest0 (p := p) (show 0 < p.dests.length by have := OK.out.d12.1; omega))
        have HDL : Hid (0 < p.dests.length) := Lib.hid (show 0 < p.dests.length by have := OK.out.d12.1; omega)
        have HORG := Lib.hid (org_ok OK.out)
        have HQ7 := Lib.hid hn7
        go_wp2_with fail
        clear g3 TX T0 TX0

        obtain ⟨g0, g1, g2, g3, g4, g5, g6⟩ := P0.out.pb.all
        refine (pick11_any n1 512 _ I1.out (by omega) (by omega)).mono ?_
        rintro e w' ⟨rfl, rfl⟩
        generalize pickV n1 512 = x at *
        obtain ⟨R, hR, hS⟩ := stop_ex (p := p) (f := x) (d := 0) NG.out
        have HS := Lib.hid hS
        clear hS
        go_wp2_with fail
        refine (solve_any p h x 0 99 R _ P0.out.net GD.out HD0.out HS.out hR).mono ?_
        rintro e w4 hpost
        obtain ⟨Z, A, c, rfl, hZ, hL⟩ := solve_ok1 hpost (by have := HQ7.out; omega)
        have P4 := Lib.hid (P0.out.call hL.below)
        have HZ := Lib.hid (hZ.trans (HS.out.end_ NG.out GD.out.lksOk))
        have LZ := Lib.hid hL.rts
        have HZl := Lib.hid (len_of hZ)
        have hZ12 : Z.length ≤ 12 := by have := HZl.out; have := HQ7.out; omega
        have hq9 : ((Z.length : Int) != (p.nodes.length : Int)) = false := by have := HZl.out; simp [this]
        clear hpost hZ hL g0 g1 g2 g3 g4 g5 g6
        obtain ⟨g0, g1, g2, g3, g4, g5, g6⟩ := P4.out.pb.all

        by_cases hp2 : p.proto = 2
        · have hq2 : (p.proto == 2) = true := by simp [hp2]
          clear hp2
          go_wp2_with fail
          refine (apart_any p h _ P4.out.pb.net GD.out).mono ?_
          rintro e w5 ⟨rfl, hb5⟩
          have P5 := Lib.hid (P4.out.call hb5)
          have L5 := Lib.hid (LZ.out.call hb5)
          clear hb5 g0 g1 g2 g3 g4 g5 g6
          obtain ⟨g0, g1, g2, g3, g4, g5, g6⟩ := P5.out.pb.all
          cases hap : apartB p with
          | false =>
            go_wp2
            go_ret
            exact ⟨rfl, P5.out.pb.below⟩
          | true =>
            have HB : Hid (∀ i, i < p.nodes.length → endF p x 0 i = bestO p x i (orgOf p ((0 : Nat) : Int))) := Lib.hid (fun i hi => stable_best NG.out GD.out HD0.out HORG.out.1 (fun _ => apart_of hap) hi)
            clear hap
            go_wp2_with fail
            go_loopw [14] (fun si wx => ∃ i : Nat, i ≤ Z.length ∧ si = .int .i64 i ∧ Below w5.heap.size w5 wx) (fun si _ => Z.length - (intOf si).toNat)
            case atStart => exact ⟨0, Nat.zero_le _, rfl, Below.refl _ _⟩
            case round =>
              obtain ⟨i, hi, rfl, hB⟩ := hrel
              have PX := Lib.hid (P5.out.call hB)
              by_cases hlt : i < Z.length
              · obtain ⟨z, hz⟩ : ∃ z, Z[i]? = some z := ⟨_, List.getElem?_eq_getElem hlt⟩
                obtain ⟨bz, oz, eA, hbz, z0, z1, z2⟩ := L5.out.at_ hz
                subst eA
                have hin : i < p.nodes.length := by have := HZl.out; omega
                have hze : z.1 = bestO p x i (orgOf p ((0 : Nat) : Int)) := by
                  have h1 : (Z.map (·.1))[i]? = some z.1 := by rw [List.getElem?_map, hz]; rfl
                  rw [HZ.out, stL_at hin] at h1
                  injection h1 with h1
                  rw [← h1]; exact HB.out i hin
                have HEQ := Lib.hid hze
                have CB : Hid (∀ wy, Below w5.heap.size w5 wy → Calls Tryz.prog 41 #[.agg #[.int .i64 p.proto, .int .i64 p.cap, .int .i64 p.k, .slice h.an p.nodes.length h.cn, .slice h.al p.links.length h.cl, .slice h.ad p.dests.length h.cd, .slice h.ac p.checks.length h.cc], .int .i64 x, .int .i64 0, .int .i64 (i : Int)] wy (OrPost (bestO p x i (orgOf p ((0 : Nat) : Int))) wy)) := Lib.hid (fun wy hb => sbest_any p h x 0 i wy (P5.out.call hb).pb.net GD.out HQ7.out HDL.out hin HORG.out.1 HORG.out.2)
                have HZR : Hid (∀ wy, Below w5.heap.size w5 wy → RtR wy wy.heap.size z.1 z.2.1 z.2.2) := Lib.hid (fun wy hb => (L5.out.each z (List.mem_of_getElem? hz)).call hb)
                have HCZ : Hid (∀ wy, Below w5.heap.size w5 wy → (wy.cell? ⟨bp, 0, none⟩ = some (.int .i64 p.proto) ∧ wy.cell? ⟨bp, 1, none⟩ = some (.int .i64 p.cap) ∧ wy.cell? ⟨bp, 2, none⟩ = some (.int .i64 p.k) ∧ wy.cell? ⟨bp, 3, none⟩ = some (.slice h.an p.nodes.length h.cn) ∧ wy.cell? ⟨bp, 4, none⟩ = some (.slice h.al p.links.length h.cl) ∧ wy.cell? ⟨bp, 5, none⟩ = some (.slice h.ad p.dests.length h.cd) ∧ wy.cell? ⟨bp, 6, none⟩ = some (.slice h.ac p.checks.length h.cc)) ∧ wy.cell? ⟨bz, oz + i * 3, none⟩ = some (.int .i64 z.1.kind) ∧ wy.cell? ⟨bz, oz + i * 3 + 1, none⟩ = some (.int .i64 z.1.cost) ∧ wy.cell? ⟨bz, oz + i * 3 + 2, none⟩ = some (.slice z.2.1 z.1.path.length z.2.2)) := Lib.hid (fun wy hb => ⟨(P5.out.call hb).pb.all, (hb.cell (p := ⟨bz, _, none⟩) hbz).trans z0, (hb.cell (p := ⟨bz, _, none⟩) hbz).trans z1, (hb.cell (p := ⟨bz, _, none⟩) hbz).trans z2⟩)
                have hi0 : (0 : Int) ≤ (i : Int) := by omega
                have hiZ : (i : Int) < (Z.length : Int) := by omega
                generalize bestO p x i (orgOf p ((0 : Nat) : Int)) = r at *
                clear hz hbz z0 z1 z2 hin hze g0 g1 g2 g3 g4 g5 g6
                go_upto_region 16 with fail
                have hBd := below_drew hB
                refine wp_region_held_drew (S := (fun wy => (wy.cell? ⟨bp, 0, none⟩ = some (.int .i64 p.proto) ∧ wy.cell? ⟨bp, 1, none⟩ = some (.int .i64 p.cap) ∧ wy.cell? ⟨bp, 2, none⟩ = some (.int .i64 p.k) ∧ wy.cell? ⟨bp, 3, none⟩ = some (.slice h.an p.nodes.length h.cn) ∧ wy.cell? ⟨bp, 4, none⟩ = some (.slice h.al p.links.length h.cl) ∧ wy.cell? ⟨bp, 5, none⟩ = some (.slice h.ad p.dests.length h.cd) ∧ wy.cell? ⟨bp, 6, none⟩ = some (.slice h.ac p.checks.length h.cc)) ∧ wy.cell? ⟨bz, oz + i * 3, none⟩ = some (.int .i64 z.1.kind) ∧ wy.cell? ⟨bz, oz + i * 3 + 1, none⟩ = some (.int .i64 z.1.cost) ∧ wy.cell? ⟨bz, oz + i * 3 + 2, none⟩ = some (.slice z.2.1 z.1.path.length z.2.2))) (by kernel_rfl) (HCZ.out _ hBd) (fun hHeld0 => ?_)
                refine take_list (i := 0) (v := ?_) rfl (by kernel_rfl) (by kernel_rfl) (by kernel_rfl) (fun _ _ _ h => h) (Or.inl ⟨by rfl, ?_⟩) (by assumption) ?_
                rotate_left
                · (intro w hSw; (try dsimp only at hSw); go_simp; try (with_reducible rfl))
                try simp only [Act.put, List.setIfInBounds_toArray, List.set_cons_zero, List.set_cons_succ]
                refine take_list (i := 1) (v := ?_) rfl (by kernel_rfl) (by kernel_rfl) (by kernel_rfl) (fun _ _ _ h => h) (Or.inl ⟨by rfl, ?_⟩) (by assumption) ?_
                rotate_left
                · (intro w hSw; (try dsimp only at hSw); go_simp; try (with_reducible rfl))
                try simp only [Act.put, List.setIfInBounds_toArray, List.set_cons_zero, List.set_cons_succ]
                refine take_list (i := 2) (v := ?_) rfl (by kernel_rfl) (by kernel_rfl) (by kernel_rfl) (fun _ _ _ h => h) (Or.inl ⟨by rfl, ?_⟩) (by assumption) ?_
                rotate_left
                · (intro w hSw; (try dsimp only at hSw); go_simp; try (with_reducible rfl))
                try simp only [Act.put, List.setIfInBounds_toArray, List.set_cons_zero, List.set_cons_succ]
                refine take_list (i := 3) (v := ?_) rfl (by kernel_rfl) (by kernel_rfl) (by kernel_rfl) (fun _ _ _ h => h) (Or.inl ⟨by rfl, ?_⟩) (by assumption) ?_
                rotate_left
                · (intro w hSw; (try dsimp only at hSw); go_simp; try (with_reducible rfl))
                try simp only [Act.put, List.setIfInBounds_toArray, List.set_cons_zero, List.set_cons_succ]
                refine take_list (i := 4) (v := ?_) rfl (by kernel_rfl) (by kernel_rfl) (by kernel_rfl) (fun _ _ _ h => h) (Or.inl ⟨by rfl, ?_⟩) (by assumption) ?_
                rotate_left
                · (intro w hSw; (try dsimp only at hSw); go_simp; try (with_reducible rfl))
                try simp only [Act.put, List.setIfInBounds_toArray, List.set_cons_zero, List.set_cons_succ]
                refine take_list (i := 5) (v := ?_) rfl (by kernel_rfl) (by kernel_rfl) (by kernel_rfl) (fun _ _ _ h => h) (Or.inl ⟨by rfl, ?_⟩) (by assumption) ?_
                rotate_left
                · (intro w hSw; (try dsimp only at hSw); go_simp; try (with_reducible rfl))
                try simp only [Act.put, List.setIfInBounds_toArray, List.set_cons_zero, List.set_cons_succ]
                refine take_list (i := 6) (v := ?_) rfl (by kernel_rfl) (by kernel_rfl) (by kernel_rfl) (fun _ _ _ h => h) (Or.inl ⟨by rfl, ?_⟩) (by assumption) ?_
                rotate_left
                · (intro w hSw; (try dsimp only at hSw); go_simp; try (with_reducible rfl))
                try simp only [Act.put, List.setIfInBounds_toArray, List.set_cons_zero, List.set_cons_succ]
                refine wpAnyH_ready (rs := [7]) (by kernel_rfl) (by simp) ?_
                refine cons_list rfl (fun K hK => ?_) AllReadyH.nil
                go_simp
                (go_at_call 41; refine (CB.out _ hBd).mono ?_; rintro e w8 ⟨A8, c8, rfl, ho8, hb8⟩; have hB8 := since_trans hBd hb8; unfold rtV)
                refine hK.out _ _ ((by first | exact HCZ.out _ hB9 | exact HCZ.out _ hB8 | exact HCZ.out _ hBd)) (fun hHeld1 => ?_)
                clear hK K hHeld0
                try simp only [Act.put, List.setIfInBounds_toArray, List.set_cons_zero, List.set_cons_succ]
                refine wpAnyH_ready (rs := [8]) (by kernel_rfl) (by simp) ?_
                refine cons_list rfl (fun K hK => ?_) AllReadyH.nil
                go_simp
                (go_at_call 14; refine (refSame_any z.1 r z.2.1 A8 z.2.2 c8 _ (HZR.out _ hB8) (ho8.rt _ _)).mono ?_; rintro e w9 ⟨rfl, hb9⟩; have hB9 := since_trans hB8 hb9; rw [show decide (z.1 = r) = true from decide_eq_true HEQ.out])
                refine hK.out _ _ ((by first | exact HCZ.out _ hB9 | exact HCZ.out _ hB8 | exact HCZ.out _ hBd)) (fun hHeld2 => ?_)
                clear hK K hHeld1
                try simp only [Act.put, List.setIfInBounds_toArray, List.set_cons_zero, List.set_cons_succ]
                refine take_list (i := 9) (v := ?_) rfl (by kernel_rfl) (by kernel_rfl) (by kernel_rfl) (fun _ _ _ h => h) (Or.inl ⟨by rfl, ?_⟩) (by assumption) ?_
                rotate_left
                · (intro w hSw; (try dsimp only at hSw); go_simp; try (with_reducible rfl))
                try simp only [Act.put, List.setIfInBounds_toArray, List.set_cons_zero, List.set_cons_succ]
                refine wpAnyH_done (by kernel_rfl) ?_ _
                clear hHeld2
                have BZ := Lib.hid hB9
                clear hB8 hB9 hb8 hb9 ho8 hBd hB
                try dsimp only
                go_wp2
                go_roundw
                case rel => exact ⟨i + 1, by omega, by go_num, BZ.out⟩
                case measure => simp [intOf]; omega
              · have BF := Lib.hid PX.out.pb.below
                clear g0 g1 g2 g3 g4 g5 g6
                go_wp2
                go_ret
                exact ⟨rfl, BF.out⟩
        · have hq2 : (p.proto == 2) = false := by simpa using hp2
          have HB : Hid (∀ i, i < p.nodes.length → endF p x 0 i = bestO p x i (orgOf p ((0 : Nat) : Int))) := Lib.hid (fun i hi => stable_best NG.out GD.out HD0.out HORG.out.1 (fun h2 => absurd h2 hp2) hi)
          clear hp2
          go_wp2_with fail
          go_loopw [14] (fun si wx => ∃ i : Nat, i ≤ Z.length ∧ si = .int .i64 i ∧ Below w4.heap.size w4 wx) (fun si _ => Z.length - (intOf si).toNat)
          case atStart => exact ⟨0, Nat.zero_le _, rfl, Below.refl _ _⟩
          case round =>
            obtain ⟨i, hi, rfl, hB⟩ := hrel
            have PX := Lib.hid (P4.out.call hB)
            by_cases hlt : i < Z.length
            · obtain ⟨z, hz⟩ : ∃ z, Z[i]? = some z := ⟨_, List.getElem?_eq_getElem hlt⟩
              obtain ⟨bz, oz, eA, hbz, z0, z1, z2⟩ := LZ.out.at_ hz
              subst eA
              have hin : i < p.nodes.length := by have := HZl.out; omega
              have hze : z.1 = bestO p x i (orgOf p ((0 : Nat) : Int)) := by
                have h1 : (Z.map (·.1))[i]? = some z.1 := by rw [List.getElem?_map, hz]; rfl
                rw [HZ.out, stL_at hin] at h1
                injection h1 with h1
                rw [← h1]; exact HB.out i hin
              have HEQ := Lib.hid hze
              have CB : Hid (∀ wy, Below w4.heap.size w4 wy → Calls Tryz.prog 41 #[.agg #[.int .i64 p.proto, .int .i64 p.cap, .int .i64 p.k, .slice h.an p.nodes.length h.cn, .slice h.al p.links.length h.cl, .slice h.ad p.dests.length h.cd, .slice h.ac p.checks.length h.cc], .int .i64 x, .int .i64 0, .int .i64 (i : Int)] wy (OrPost (bestO p x i (orgOf p ((0 : Nat) : Int))) wy)) := Lib.hid (fun wy hb => sbest_any p h x 0 i wy (P4.out.call hb).pb.net GD.out HQ7.out HDL.out hin HORG.out.1 HORG.out.2)
              have HZR : Hid (∀ wy, Below w4.heap.size w4 wy → RtR wy wy.heap.size z.1 z.2.1 z.2.2) := Lib.hid (fun wy hb => (LZ.out.each z (List.mem_of_getElem? hz)).call hb)
              have HCZ : Hid (∀ wy, Below w4.heap.size w4 wy → (wy.cell? ⟨bp, 0, none⟩ = some (.int .i64 p.proto) ∧ wy.cell? ⟨bp, 1, none⟩ = some (.int .i64 p.cap) ∧ wy.cell? ⟨bp, 2, none⟩ = some (.int .i64 p.k) ∧ wy.cell? ⟨bp, 3, none⟩ = some (.slice h.an p.nodes.length h.cn) ∧ wy.cell? ⟨bp, 4, none⟩ = some (.slice h.al p.links.length h.cl) ∧ wy.cell? ⟨bp, 5, none⟩ = some (.slice h.ad p.dests.length h.cd) ∧ wy.cell? ⟨bp, 6, none⟩ = some (.slice h.ac p.checks.length h.cc)) ∧ wy.cell? ⟨bz, oz + i * 3, none⟩ = some (.int .i64 z.1.kind) ∧ wy.cell? ⟨bz, oz + i * 3 + 1, none⟩ = some (.int .i64 z.1.cost) ∧ wy.cell? ⟨bz, oz + i * 3 + 2, none⟩ = some (.slice z.2.1 z.1.path.length z.2.2)) := Lib.hid (fun wy hb => ⟨(P4.out.call hb).pb.all, (hb.cell (p := ⟨bz, _, none⟩) hbz).trans z0, (hb.cell (p := ⟨bz, _, none⟩) hbz).trans z1, (hb.cell (p := ⟨bz, _, none⟩) hbz).trans z2⟩)
              have hi0 : (0 : Int) ≤ (i : Int) := by omega
              have hiZ : (i : Int) < (Z.length : Int) := by omega
              generalize bestO p x i (orgOf p ((0 : Nat) : Int)) = r at *
              clear hz hbz z0 z1 z2 hin hze g0 g1 g2 g3 g4 g5 g6
              go_upto_region 16 with fail
              have hBd := below_drew hB
              refine wp_region_held_drew (S := (fun wy => (wy.cell? ⟨bp, 0, none⟩ = some (.int .i64 p.proto) ∧ wy.cell? ⟨bp, 1, none⟩ = some (.int .i64 p.cap) ∧ wy.cell? ⟨bp, 2, none⟩ = some (.int .i64 p.k) ∧ wy.cell? ⟨bp, 3, none⟩ = some (.slice h.an p.nodes.length h.cn) ∧ wy.cell? ⟨bp, 4, none⟩ = some (.slice h.al p.links.length h.cl) ∧ wy.cell? ⟨bp, 5, none⟩ = some (.slice h.ad p.dests.length h.cd) ∧ wy.cell? ⟨bp, 6, none⟩ = some (.slice h.ac p.checks.length h.cc)) ∧ wy.cell? ⟨bz, oz + i * 3, none⟩ = some (.int .i64 z.1.kind) ∧ wy.cell? ⟨bz, oz + i * 3 + 1, none⟩ = some (.int .i64 z.1.cost) ∧ wy.cell? ⟨bz, oz + i * 3 + 2, none⟩ = some (.slice z.2.1 z.1.path.length z.2.2))) (by kernel_rfl) (HCZ.out _ hBd) (fun hHeld0 => ?_)
              refine take_list (i := 0) (v := ?_) rfl (by kernel_rfl) (by kernel_rfl) (by kernel_rfl) (fun _ _ _ h => h) (Or.inl ⟨by rfl, ?_⟩) (by assumption) ?_
              rotate_left
              · (intro w hSw; (try dsimp only at hSw); go_simp; try (with_reducible rfl))
              try simp only [Act.put, List.setIfInBounds_toArray, List.set_cons_zero, List.set_cons_succ]
              refine take_list (i := 1) (v := ?_) rfl (by kernel_rfl) (by kernel_rfl) (by kernel_rfl) (fun _ _ _ h => h) (Or.inl ⟨by rfl, ?_⟩) (by assumption) ?_
              rotate_left
              · (intro w hSw; (try dsimp only at hSw); go_simp; try (with_reducible rfl))
              try simp only [Act.put, List.setIfInBounds_toArray, List.set_cons_zero, List.set_cons_succ]
              refine take_list (i := 2) (v := ?_) rfl (by kernel_rfl) (by kernel_rfl) (by kernel_rfl) (fun _ _ _ h => h) (Or.inl ⟨by rfl, ?_⟩) (by assumption) ?_
              rotate_left
              · (intro w hSw; (try dsimp only at hSw); go_simp; try (with_reducible rfl))
              try simp only [Act.put, List.setIfInBounds_toArray, List.set_cons_zero, List.set_cons_succ]
              refine take_list (i := 3) (v := ?_) rfl (by kernel_rfl) (by kernel_rfl) (by kernel_rfl) (fun _ _ _ h => h) (Or.inl ⟨by rfl, ?_⟩) (by assumption) ?_
              rotate_left
              · (intro w hSw; (try dsimp only at hSw); go_simp; try (with_reducible rfl))
              try simp only [Act.put, List.setIfInBounds_toArray, List.set_cons_zero, List.set_cons_succ]
              refine take_list (i := 4) (v := ?_) rfl (by kernel_rfl) (by kernel_rfl) (by kernel_rfl) (fun _ _ _ h => h) (Or.inl ⟨by rfl, ?_⟩) (by assumption) ?_
              rotate_left
              · (intro w hSw; (try dsimp only at hSw); go_simp; try (with_reducible rfl))
              try simp only [Act.put, List.setIfInBounds_toArray, List.set_cons_zero, List.set_cons_succ]
              refine take_list (i := 5) (v := ?_) rfl (by kernel_rfl) (by kernel_rfl) (by kernel_rfl) (fun _ _ _ h => h) (Or.inl ⟨by rfl, ?_⟩) (by assumption) ?_
              rotate_left
              · (intro w hSw; (try dsimp only at hSw); go_simp; try (with_reducible rfl))
              try simp only [Act.put, List.setIfInBounds_toArray, List.set_cons_zero, List.set_cons_succ]
              refine take_list (i := 6) (v := ?_) rfl (by kernel_rfl) (by kernel_rfl) (by kernel_rfl) (fun _ _ _ h => h) (Or.inl ⟨by rfl, ?_⟩) (by assumption) ?_
              rotate_left
              · (intro w hSw; (try dsimp only at hSw); go_simp; try (with_reducible rfl))
              try simp only [Act.put, List.setIfInBounds_toArray, List.set_cons_zero, List.set_cons_succ]
              refine wpAnyH_ready (rs := [7]) (by kernel_rfl) (by simp) ?_
              refine cons_list rfl (fun K hK => ?_) AllReadyH.nil
              go_simp
              (go_at_call 41; refine (CB.out _ hBd).mono ?_; rintro e w8 ⟨A8, c8, rfl, ho8, hb8⟩; have hB8 := since_trans hBd hb8; unfold rtV)
              refine hK.out _ _ ((by first | exact HCZ.out _ hB9 | exact HCZ.out _ hB8 | exact HCZ.out _ hBd)) (fun hHeld1 => ?_)
              clear hK K hHeld0
              try simp only [Act.put, List.setIfInBounds_toArray, List.set_cons_zero, List.set_cons_succ]
              refine wpAnyH_ready (rs := [8]) (by kernel_rfl) (by simp) ?_
              refine cons_list rfl (fun K hK => ?_) AllReadyH.nil
              go_simp
              (go_at_call 14; refine (refSame_any z.1 r z.2.1 A8 z.2.2 c8 _ (HZR.out _ hB8) (ho8.rt _ _)).mono ?_; rintro e w9 ⟨rfl, hb9⟩; have hB9 := since_trans hB8 hb9; rw [show decide (z.1 = r) = true from decide_eq_true HEQ.out])
              refine hK.out _ _ ((by first | exact HCZ.out _ hB9 | exact HCZ.out _ hB8 | exact HCZ.out _ hBd)) (fun hHeld2 => ?_)
              clear hK K hHeld1
              try simp only [Act.put, List.setIfInBounds_toArray, List.set_cons_zero, List.set_cons_succ]
              refine take_list (i := 9) (v := ?_) rfl (by kernel_rfl) (by kernel_rfl) (by kernel_rfl) (fun _ _ _ h => h) (Or.inl ⟨by rfl, ?_⟩) (by assumption) ?_
              rotate_left
              · (intro w hSw; (try dsimp only at hSw); go_simp; try (with_reducible rfl))
              try simp only [Act.put, List.setIfInBounds_toArray, List.set_cons_zero, List.set_cons_succ]
              refine wpAnyH_done (by kernel_rfl) ?_ _
              clear hHeld2
              have BZ := Lib.hid hB9
              clear hB8 hB9 hb8 hb9 ho8 hBd hB
              try dsimp only
              go_wp2
              go_roundw
              case rel => exact ⟨i + 1, by omega, by go_num, BZ.out⟩
              case measure => simp [intOf]; omega
            · have BF := Lib.hid PX.out.pb.below
              clear g0 g1 g2 g3 g4 g5 g6
              go_wp2
              go_ret
              exact ⟨rfl, BF.out⟩
    · have hbt : b1 = true := by
        cases b1 with
        | true => rfl
        | false => have := hbk rfl; omega
      subst hbt
      obtain rfl : k = p.nodes.length := by omega
      have P0 : Hid (NW w wr bp (rnS p p.nodes.length) h []) := Lib.hid ⟨TX.out.pb, by intro z hz; cases hz⟩
      have GD := Lib.hid (rnS_good OK.out.good (by omega) p.nodes.length)
      have HAP : Hid (apartB (rnS p p.nodes.length) = true) := Lib.hid (apart_unlike (rnS_unlike p hn7))
      have HQN := Lib.hid (rnS_n p p.nodes.length)
      have HOR : Hid (orgOf (rnS p p.nodes.length) ((0 : Nat) : Int) = orgOf p ((0 : Nat) : Int)) := Lib.hid rfl
      have HDD : Hid ((rnS p p.nodes.length).dests = p.dests) := Lib.hid rfl
      have hgq := g3
      clear hbk hlt hk
      have NG := Lib.hid GD.out.netG
      have HD0 := Lib.hid (dest0 (p := rnS p p.nodes.length) (show 0 < p.dests.length by have := OK.out.d12.1; omega))
      have HDL : Hid (0 < (rnS p p.nodes.length).dests.length) := Lib.hid (show 0 < p.dests.length by have := OK.out.d12.1; omega)
      have HORG : Hid ((∀ b ∈ orgOf (rnS p p.nodes.length) ((0 : Nat) : Int), 0 ≤ b ∧ b < (rnS p p.nodes.length).nodes.length) ∧ (orgOf (rnS p p.nodes.length) ((0 : Nat) : Int)).length ≤ 100) := Lib.hid ⟨fun b hb => by rw [rnS_n]; exact (org_ok OK.out).1 b hb, (org_ok OK.out).2⟩
      have HQ7 : Hid ((rnS p p.nodes.length).nodes.length ≤ 7) := Lib.hid (by rw [rnS_n]; exact hn7)
      clear HOR HDD HQN
      go_wp2_with fail
      clear g3 hgq
      generalize hqq : rnS p p.nodes.length = q at *
      clear hqq TX T0

      obtain ⟨g0, g1, g2, g3, g4, g5, g6⟩ := P0.out.pb.all
      refine (pick11_any n1 512 _ I1.out (by omega) (by omega)).mono ?_
      rintro e w' ⟨rfl, rfl⟩
      generalize pickV n1 512 = x at *
      obtain ⟨R, hR, hS⟩ := stop_ex (p := q) (f := x) (d := 0) NG.out
      have HS := Lib.hid hS
      clear hS
      go_wp2_with fail
      refine (solve_any q h x 0 99 R _ P0.out.net GD.out HD0.out HS.out hR).mono ?_
      rintro e w4 hpost
      obtain ⟨Z, A, c, rfl, hZ, hL⟩ := solve_ok1 hpost (by have := HQ7.out; omega)
      have P4 := Lib.hid (P0.out.call hL.below)
      have HZ := Lib.hid (hZ.trans (HS.out.end_ NG.out GD.out.lksOk))
      have LZ := Lib.hid hL.rts
      have HZl := Lib.hid (len_of hZ)
      have hZ12 : Z.length ≤ 12 := by have := HZl.out; have := HQ7.out; omega
      have hq9 : ((Z.length : Int) != (q.nodes.length : Int)) = false := by have := HZl.out; simp [this]
      clear hpost hZ hL g0 g1 g2 g3 g4 g5 g6
      obtain ⟨g0, g1, g2, g3, g4, g5, g6⟩ := P4.out.pb.all

      go_wp2_with fail
      refine (apart_any q h _ P4.out.pb.net GD.out).mono ?_
      rintro e w5 ⟨rfl, hb5⟩
      rw [HAP.out]
      have P5 := Lib.hid (P4.out.call hb5)
      have L5 := Lib.hid (LZ.out.call hb5)
      have HB : Hid (∀ i, i < q.nodes.length → endF q x 0 i = bestO q x i (orgOf q ((0 : Nat) : Int))) := Lib.hid (fun i hi => stable_best NG.out GD.out HD0.out HORG.out.1 (fun _ => apart_of HAP.out) hi)
      clear hb5 g0 g1 g2 g3 g4 g5 g6
      obtain ⟨g0, g1, g2, g3, g4, g5, g6⟩ := P5.out.pb.all
      by_cases hp2 : q.proto = 2
      · have hq2 : (q.proto == 2) = true := by simp [hp2]
        clear hp2
        go_wp2_with fail
        refine (apart_any q h _ P5.out.pb.net GD.out).mono ?_
        rintro e w6 ⟨rfl, hb6⟩
        rw [HAP.out]
        have P6 := Lib.hid (P5.out.call hb6)
        have L6 := Lib.hid (L5.out.call hb6)
        clear hb6 g0 g1 g2 g3 g4 g5 g6
        obtain ⟨g0, g1, g2, g3, g4, g5, g6⟩ := P6.out.pb.all
        go_wp2_with fail
        go_loopw [14] (fun si wx => ∃ i : Nat, i ≤ Z.length ∧ si = .int .i64 i ∧ Below w6.heap.size w6 wx) (fun si _ => Z.length - (intOf si).toNat)
        case atStart => exact ⟨0, Nat.zero_le _, rfl, Below.refl _ _⟩
        case round =>
          obtain ⟨i, hi, rfl, hB⟩ := hrel
          have PX := Lib.hid (P6.out.call hB)
          by_cases hlt : i < Z.length
          · obtain ⟨z, hz⟩ : ∃ z, Z[i]? = some z := ⟨_, List.getElem?_eq_getElem hlt⟩
            obtain ⟨bz, oz, eA, hbz, z0, z1, z2⟩ := L6.out.at_ hz
            subst eA
            have hin : i < q.nodes.length := by have := HZl.out; omega
            have hze : z.1 = bestO q x i (orgOf q ((0 : Nat) : Int)) := by
              have h1 : (Z.map (·.1))[i]? = some z.1 := by rw [List.getElem?_map, hz]; rfl
              rw [HZ.out, stL_at hin] at h1
              injection h1 with h1
              rw [← h1]; exact HB.out i hin
            have HEQ := Lib.hid hze
            have CB : Hid (∀ wy, Below w6.heap.size w6 wy → Calls Tryz.prog 41 #[.agg #[.int .i64 q.proto, .int .i64 q.cap, .int .i64 q.k, .slice h.an q.nodes.length h.cn, .slice h.al q.links.length h.cl, .slice h.ad q.dests.length h.cd, .slice h.ac q.checks.length h.cc], .int .i64 x, .int .i64 0, .int .i64 (i : Int)] wy (OrPost (bestO q x i (orgOf q ((0 : Nat) : Int))) wy)) := Lib.hid (fun wy hb => sbest_any q h x 0 i wy (P6.out.call hb).pb.net GD.out HQ7.out HDL.out hin HORG.out.1 HORG.out.2)
            have HZR : Hid (∀ wy, Below w6.heap.size w6 wy → RtR wy wy.heap.size z.1 z.2.1 z.2.2) := Lib.hid (fun wy hb => (L6.out.each z (List.mem_of_getElem? hz)).call hb)
            have HCZ : Hid (∀ wy, Below w6.heap.size w6 wy → (wy.cell? ⟨bp, 0, none⟩ = some (.int .i64 q.proto) ∧ wy.cell? ⟨bp, 1, none⟩ = some (.int .i64 q.cap) ∧ wy.cell? ⟨bp, 2, none⟩ = some (.int .i64 q.k) ∧ wy.cell? ⟨bp, 3, none⟩ = some (.slice h.an q.nodes.length h.cn) ∧ wy.cell? ⟨bp, 4, none⟩ = some (.slice h.al q.links.length h.cl) ∧ wy.cell? ⟨bp, 5, none⟩ = some (.slice h.ad q.dests.length h.cd) ∧ wy.cell? ⟨bp, 6, none⟩ = some (.slice h.ac q.checks.length h.cc)) ∧ wy.cell? ⟨bz, oz + i * 3, none⟩ = some (.int .i64 z.1.kind) ∧ wy.cell? ⟨bz, oz + i * 3 + 1, none⟩ = some (.int .i64 z.1.cost) ∧ wy.cell? ⟨bz, oz + i * 3 + 2, none⟩ = some (.slice z.2.1 z.1.path.length z.2.2)) := Lib.hid (fun wy hb => ⟨(P6.out.call hb).pb.all, (hb.cell (p := ⟨bz, _, none⟩) hbz).trans z0, (hb.cell (p := ⟨bz, _, none⟩) hbz).trans z1, (hb.cell (p := ⟨bz, _, none⟩) hbz).trans z2⟩)
            have hi0 : (0 : Int) ≤ (i : Int) := by omega
            have hiZ : (i : Int) < (Z.length : Int) := by omega
            generalize bestO q x i (orgOf q ((0 : Nat) : Int)) = r at *
            clear hz hbz z0 z1 z2 hin hze g0 g1 g2 g3 g4 g5 g6
            go_upto_region 16 with fail
            have hBd := below_drew hB
            refine wp_region_held_drew (S := (fun wy => (wy.cell? ⟨bp, 0, none⟩ = some (.int .i64 q.proto) ∧ wy.cell? ⟨bp, 1, none⟩ = some (.int .i64 q.cap) ∧ wy.cell? ⟨bp, 2, none⟩ = some (.int .i64 q.k) ∧ wy.cell? ⟨bp, 3, none⟩ = some (.slice h.an q.nodes.length h.cn) ∧ wy.cell? ⟨bp, 4, none⟩ = some (.slice h.al q.links.length h.cl) ∧ wy.cell? ⟨bp, 5, none⟩ = some (.slice h.ad q.dests.length h.cd) ∧ wy.cell? ⟨bp, 6, none⟩ = some (.slice h.ac q.checks.length h.cc)) ∧ wy.cell? ⟨bz, oz + i * 3, none⟩ = some (.int .i64 z.1.kind) ∧ wy.cell? ⟨bz, oz + i * 3 + 1, none⟩ = some (.int .i64 z.1.cost) ∧ wy.cell? ⟨bz, oz + i * 3 + 2, none⟩ = some (.slice z.2.1 z.1.path.length z.2.2))) (by kernel_rfl) (HCZ.out _ hBd) (fun hHeld0 => ?_)
            refine take_list (i := 0) (v := ?_) rfl (by kernel_rfl) (by kernel_rfl) (by kernel_rfl) (fun _ _ _ h => h) (Or.inl ⟨by rfl, ?_⟩) (by assumption) ?_
            rotate_left
            · (intro w hSw; (try dsimp only at hSw); go_simp; try (with_reducible rfl))
            try simp only [Act.put, List.setIfInBounds_toArray, List.set_cons_zero, List.set_cons_succ]
            refine take_list (i := 1) (v := ?_) rfl (by kernel_rfl) (by kernel_rfl) (by kernel_rfl) (fun _ _ _ h => h) (Or.inl ⟨by rfl, ?_⟩) (by assumption) ?_
            rotate_left
            · (intro w hSw; (try dsimp only at hSw); go_simp; try (with_reducible rfl))
            try simp only [Act.put, List.setIfInBounds_toArray, List.set_cons_zero, List.set_cons_succ]
            refine take_list (i := 2) (v := ?_) rfl (by kernel_rfl) (by kernel_rfl) (by kernel_rfl) (fun _ _ _ h => h) (Or.inl ⟨by rfl, ?_⟩) (by assumption) ?_
            rotate_left
            · (intro w hSw; (try dsimp only at hSw); go_simp; try (with_reducible rfl))
            try simp only [Act.put, List.setIfInBounds_toArray, List.set_cons_zero, List.set_cons_succ]
            refine take_list (i := 3) (v := ?_) rfl (by kernel_rfl) (by kernel_rfl) (by kernel_rfl) (fun _ _ _ h => h) (Or.inl ⟨by rfl, ?_⟩) (by assumption) ?_
            rotate_left
            · (intro w hSw; (try dsimp only at hSw); go_simp; try (with_reducible rfl))
            try simp only [Act.put, List.setIfInBounds_toArray, List.set_cons_zero, List.set_cons_succ]
            refine take_list (i := 4) (v := ?_) rfl (by kernel_rfl) (by kernel_rfl) (by kernel_rfl) (fun _ _ _ h => h) (Or.inl ⟨by rfl, ?_⟩) (by assumption) ?_
            rotate_left
            · (intro w hSw; (try dsimp only at hSw); go_simp; try (with_reducible rfl))
            try simp only [Act.put, List.setIfInBounds_toArray, List.set_cons_zero, List.set_cons_succ]
            refine take_list (i := 5) (v := ?_) rfl (by kernel_rfl) (by kernel_rfl) (by kernel_rfl) (fun _ _ _ h => h) (Or.inl ⟨by rfl, ?_⟩) (by assumption) ?_
            rotate_left
            · (intro w hSw; (try dsimp only at hSw); go_simp; try (with_reducible rfl))
            try simp only [Act.put, List.setIfInBounds_toArray, List.set_cons_zero, List.set_cons_succ]
            refine take_list (i := 6) (v := ?_) rfl (by kernel_rfl) (by kernel_rfl) (by kernel_rfl) (fun _ _ _ h => h) (Or.inl ⟨by rfl, ?_⟩) (by assumption) ?_
            rotate_left
            · (intro w hSw; (try dsimp only at hSw); go_simp; try (with_reducible rfl))
            try simp only [Act.put, List.setIfInBounds_toArray, List.set_cons_zero, List.set_cons_succ]
            refine wpAnyH_ready (rs := [7]) (by kernel_rfl) (by simp) ?_
            refine cons_list rfl (fun K hK => ?_) AllReadyH.nil
            go_simp
            (go_at_call 41; refine (CB.out _ hBd).mono ?_; rintro e w8 ⟨A8, c8, rfl, ho8, hb8⟩; have hB8 := since_trans hBd hb8; unfold rtV)
            refine hK.out _ _ ((by first | exact HCZ.out _ hB9 | exact HCZ.out _ hB8 | exact HCZ.out _ hBd)) (fun hHeld1 => ?_)
            clear hK K hHeld0
            try simp only [Act.put, List.setIfInBounds_toArray, List.set_cons_zero, List.set_cons_succ]
            refine wpAnyH_ready (rs := [8]) (by kernel_rfl) (by simp) ?_
            refine cons_list rfl (fun K hK => ?_) AllReadyH.nil
            go_simp
            (go_at_call 14; refine (refSame_any z.1 r z.2.1 A8 z.2.2 c8 _ (HZR.out _ hB8) (ho8.rt _ _)).mono ?_; rintro e w9 ⟨rfl, hb9⟩; have hB9 := since_trans hB8 hb9; rw [show decide (z.1 = r) = true from decide_eq_true HEQ.out])
            refine hK.out _ _ ((by first | exact HCZ.out _ hB9 | exact HCZ.out _ hB8 | exact HCZ.out _ hBd)) (fun hHeld2 => ?_)
            clear hK K hHeld1
            try simp only [Act.put, List.setIfInBounds_toArray, List.set_cons_zero, List.set_cons_succ]
            refine take_list (i := 9) (v := ?_) rfl (by kernel_rfl) (by kernel_rfl) (by kernel_rfl) (fun _ _ _ h => h) (Or.inl ⟨by rfl, ?_⟩) (by assumption) ?_
            rotate_left
            · (intro w hSw; (try dsimp only at hSw); go_simp; try (with_reducible rfl))
            try simp only [Act.put, List.setIfInBounds_toArray, List.set_cons_zero, List.set_cons_succ]
            refine wpAnyH_done (by kernel_rfl) ?_ _
            clear hHeld2
            have BZ := Lib.hid hB9
            clear hB8 hB9 hb8 hb9 ho8 hBd hB
            try dsimp only
            go_wp2
            go_roundw
            case rel => exact ⟨i + 1, by omega, by go_num, BZ.out⟩
            case measure => simp [intOf]; omega
          · have BF := Lib.hid PX.out.pb.below
            clear g0 g1 g2 g3 g4 g5 g6
            go_wp2
            go_ret
            exact ⟨rfl, BF.out⟩
      · have hq2 : (q.proto == 2) = false := by simpa using hp2
        clear hp2
        go_wp2_with fail
        go_loopw [14] (fun si wx => ∃ i : Nat, i ≤ Z.length ∧ si = .int .i64 i ∧ Below w5.heap.size w5 wx) (fun si _ => Z.length - (intOf si).toNat)
        case atStart => exact ⟨0, Nat.zero_le _, rfl, Below.refl _ _⟩
        case round =>
          obtain ⟨i, hi, rfl, hB⟩ := hrel
          have PX := Lib.hid (P5.out.call hB)
          by_cases hlt : i < Z.length
          · obtain ⟨z, hz⟩ : ∃ z, Z[i]? = some z := ⟨_, List.getElem?_eq_getElem hlt⟩
            obtain ⟨bz, oz, eA, hbz, z0, z1, z2⟩ := L5.out.at_ hz
            subst eA
            have hin : i < q.nodes.length := by have := HZl.out; omega
            have hze : z.1 = bestO q x i (orgOf q ((0 : Nat) : Int)) := by
              have h1 : (Z.map (·.1))[i]? = some z.1 := by rw [List.getElem?_map, hz]; rfl
              rw [HZ.out, stL_at hin] at h1
              injection h1 with h1
              rw [← h1]; exact HB.out i hin
            have HEQ := Lib.hid hze
            have CB : Hid (∀ wy, Below w5.heap.size w5 wy → Calls Tryz.prog 41 #[.agg #[.int .i64 q.proto, .int .i64 q.cap, .int .i64 q.k, .slice h.an q.nodes.length h.cn, .slice h.al q.links.length h.cl, .slice h.ad q.dests.length h.cd, .slice h.ac q.checks.length h.cc], .int .i64 x, .int .i64 0, .int .i64 (i : Int)] wy (OrPost (bestO q x i (orgOf q ((0 : Nat) : Int))) wy)) := Lib.hid (fun wy hb => sbest_any q h x 0 i wy (P5.out.call hb).pb.net GD.out HQ7.out HDL.out hin HORG.out.1 HORG.out.2)
            have HZR : Hid (∀ wy, Below w5.heap.size w5 wy → RtR wy wy.heap.size z.1 z.2.1 z.2.2) := Lib.hid (fun wy hb => (L5.out.each z (List.mem_of_getElem? hz)).call hb)
            have HCZ : Hid (∀ wy, Below w5.heap.size w5 wy → (wy.cell? ⟨bp, 0, none⟩ = some (.int .i64 q.proto) ∧ wy.cell? ⟨bp, 1, none⟩ = some (.int .i64 q.cap) ∧ wy.cell? ⟨bp, 2, none⟩ = some (.int .i64 q.k) ∧ wy.cell? ⟨bp, 3, none⟩ = some (.slice h.an q.nodes.length h.cn) ∧ wy.cell? ⟨bp, 4, none⟩ = some (.slice h.al q.links.length h.cl) ∧ wy.cell? ⟨bp, 5, none⟩ = some (.slice h.ad q.dests.length h.cd) ∧ wy.cell? ⟨bp, 6, none⟩ = some (.slice h.ac q.checks.length h.cc)) ∧ wy.cell? ⟨bz, oz + i * 3, none⟩ = some (.int .i64 z.1.kind) ∧ wy.cell? ⟨bz, oz + i * 3 + 1, none⟩ = some (.int .i64 z.1.cost) ∧ wy.cell? ⟨bz, oz + i * 3 + 2, none⟩ = some (.slice z.2.1 z.1.path.length z.2.2)) := Lib.hid (fun wy hb => ⟨(P5.out.call hb).pb.all, (hb.cell (p := ⟨bz, _, none⟩) hbz).trans z0, (hb.cell (p := ⟨bz, _, none⟩) hbz).trans z1, (hb.cell (p := ⟨bz, _, none⟩) hbz).trans z2⟩)
            have hi0 : (0 : Int) ≤ (i : Int) := by omega
            have hiZ : (i : Int) < (Z.length : Int) := by omega
            generalize bestO q x i (orgOf q ((0 : Nat) : Int)) = r at *
            clear hz hbz z0 z1 z2 hin hze g0 g1 g2 g3 g4 g5 g6
            go_upto_region 16 with fail
            have hBd := below_drew hB
            refine wp_region_held_drew (S := (fun wy => (wy.cell? ⟨bp, 0, none⟩ = some (.int .i64 q.proto) ∧ wy.cell? ⟨bp, 1, none⟩ = some (.int .i64 q.cap) ∧ wy.cell? ⟨bp, 2, none⟩ = some (.int .i64 q.k) ∧ wy.cell? ⟨bp, 3, none⟩ = some (.slice h.an q.nodes.length h.cn) ∧ wy.cell? ⟨bp, 4, none⟩ = some (.slice h.al q.links.length h.cl) ∧ wy.cell? ⟨bp, 5, none⟩ = some (.slice h.ad q.dests.length h.cd) ∧ wy.cell? ⟨bp, 6, none⟩ = some (.slice h.ac q.checks.length h.cc)) ∧ wy.cell? ⟨bz, oz + i * 3, none⟩ = some (.int .i64 z.1.kind) ∧ wy.cell? ⟨bz, oz + i * 3 + 1, none⟩ = some (.int .i64 z.1.cost) ∧ wy.cell? ⟨bz, oz + i * 3 + 2, none⟩ = some (.slice z.2.1 z.1.path.length z.2.2))) (by kernel_rfl) (HCZ.out _ hBd) (fun hHeld0 => ?_)
            refine take_list (i := 0) (v := ?_) rfl (by kernel_rfl) (by kernel_rfl) (by kernel_rfl) (fun _ _ _ h => h) (Or.inl ⟨by rfl, ?_⟩) (by assumption) ?_
            rotate_left
            · (intro w hSw; (try dsimp only at hSw); go_simp; try (with_reducible rfl))
            try simp only [Act.put, List.setIfInBounds_toArray, List.set_cons_zero, List.set_cons_succ]
            refine take_list (i := 1) (v := ?_) rfl (by kernel_rfl) (by kernel_rfl) (by kernel_rfl) (fun _ _ _ h => h) (Or.inl ⟨by rfl, ?_⟩) (by assumption) ?_
            rotate_left
            · (intro w hSw; (try dsimp only at hSw); go_simp; try (with_reducible rfl))
            try simp only [Act.put, List.setIfInBounds_toArray, List.set_cons_zero, List.set_cons_succ]
            refine take_list (i := 2) (v := ?_) rfl (by kernel_rfl) (by kernel_rfl) (by kernel_rfl) (fun _ _ _ h => h) (Or.inl ⟨by rfl, ?_⟩) (by assumption) ?_
            rotate_left
            · (intro w hSw; (try dsimp only at hSw); go_simp; try (with_reducible rfl))
            try simp only [Act.put, List.setIfInBounds_toArray, List.set_cons_zero, List.set_cons_succ]
            refine take_list (i := 3) (v := ?_) rfl (by kernel_rfl) (by kernel_rfl) (by kernel_rfl) (fun _ _ _ h => h) (Or.inl ⟨by rfl, ?_⟩) (by assumption) ?_
            rotate_left
            · (intro w hSw; (try dsimp only at hSw); go_simp; try (with_reducible rfl))
            try simp only [Act.put, List.setIfInBounds_toArray, List.set_cons_zero, List.set_cons_succ]
            refine take_list (i := 4) (v := ?_) rfl (by kernel_rfl) (by kernel_rfl) (by kernel_rfl) (fun _ _ _ h => h) (Or.inl ⟨by rfl, ?_⟩) (by assumption) ?_
            rotate_left
            · (intro w hSw; (try dsimp only at hSw); go_simp; try (with_reducible rfl))
            try simp only [Act.put, List.setIfInBounds_toArray, List.set_cons_zero, List.set_cons_succ]
            refine take_list (i := 5) (v := ?_) rfl (by kernel_rfl) (by kernel_rfl) (by kernel_rfl) (fun _ _ _ h => h) (Or.inl ⟨by rfl, ?_⟩) (by assumption) ?_
            rotate_left
            · (intro w hSw; (try dsimp only at hSw); go_simp; try (with_reducible rfl))
            try simp only [Act.put, List.setIfInBounds_toArray, List.set_cons_zero, List.set_cons_succ]
            refine take_list (i := 6) (v := ?_) rfl (by kernel_rfl) (by kernel_rfl) (by kernel_rfl) (fun _ _ _ h => h) (Or.inl ⟨by rfl, ?_⟩) (by assumption) ?_
            rotate_left
            · (intro w hSw; (try dsimp only at hSw); go_simp; try (with_reducible rfl))
            try simp only [Act.put, List.setIfInBounds_toArray, List.set_cons_zero, List.set_cons_succ]
            refine wpAnyH_ready (rs := [7]) (by kernel_rfl) (by simp) ?_
            refine cons_list rfl (fun K hK => ?_) AllReadyH.nil
            go_simp
            (go_at_call 41; refine (CB.out _ hBd).mono ?_; rintro e w8 ⟨A8, c8, rfl, ho8, hb8⟩; have hB8 := since_trans hBd hb8; unfold rtV)
            refine hK.out _ _ ((by first | exact HCZ.out _ hB9 | exact HCZ.out _ hB8 | exact HCZ.out _ hBd)) (fun hHeld1 => ?_)
            clear hK K hHeld0
            try simp only [Act.put, List.setIfInBounds_toArray, List.set_cons_zero, List.set_cons_succ]
            refine wpAnyH_ready (rs := [8]) (by kernel_rfl) (by simp) ?_
            refine cons_list rfl (fun K hK => ?_) AllReadyH.nil
            go_simp
            (go_at_call 14; refine (refSame_any z.1 r z.2.1 A8 z.2.2 c8 _ (HZR.out _ hB8) (ho8.rt _ _)).mono ?_; rintro e w9 ⟨rfl, hb9⟩; have hB9 := since_trans hB8 hb9; rw [show decide (z.1 = r) = true from decide_eq_true HEQ.out])
            refine hK.out _ _ ((by first | exact HCZ.out _ hB9 | exact HCZ.out _ hB8 | exact HCZ.out _ hBd)) (fun hHeld2 => ?_)
            clear hK K hHeld1
            try simp only [Act.put, List.setIfInBounds_toArray, List.set_cons_zero, List.set_cons_succ]
            refine take_list (i := 9) (v := ?_) rfl (by kernel_rfl) (by kernel_rfl) (by kernel_rfl) (fun _ _ _ h => h) (Or.inl ⟨by rfl, ?_⟩) (by assumption) ?_
            rotate_left
            · (intro w hSw; (try dsimp only at hSw); go_simp; try (with_reducible rfl))
            try simp only [Act.put, List.setIfInBounds_toArray, List.set_cons_zero, List.set_cons_succ]
            refine wpAnyH_done (by kernel_rfl) ?_ _
            clear hHeld2
            have BZ := Lib.hid hB9
            clear hB8 hB9 hb8 hb9 ho8 hBd hB
            try dsimp only
            go_wp2
            go_roundw
            case rel => exact ⟨i + 1, by omega, by go_num, BZ.out⟩
            case measure => simp [intOf]; omega
          · have BF := Lib.hid PX.out.pb.below
            clear g0 g1 g2 g3 g4 g5 g6
            go_wp2
            go_ret
            exact ⟨rfl, BF.out⟩
end Go.Proofs.YtlnnmjomdblciaaGreat

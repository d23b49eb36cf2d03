/- The walk of backstaylaw09.RoundParts. -/
import Derived.Test.YtifjppkgbalcpaaGreatLaw9
namespace Go.Proofs.YtifjppkgbalcpaaGreat
set_option linter.unusedSimpArgs false
set_option linter.unusedVariables false
open Go.RowKit

theorem Adj.ltL {L : List Lk} {f : Int} {N : Nat} (hok : LksOk L N) : ∀ u v, Adj L f u v → v < N := by
  rintro u v ⟨i, x, hx, -, h⟩
  obtain ⟨h1, h2, h3⟩ := hok x (List.mem_of_getElem? hx)
  rcases h with ⟨-, h⟩ | ⟨-, h⟩ <;> omega
/-- So far none of these is nearer. -/
def NearOk (L : List Lk) (f : Int) (i : Nat) (os : List Int) (m : Int) : Prop := ∀ o : Nat, (o : Int) ∈ os → ∀ j, Gr.Ball (Adj L f) j i o → 0 ≤ m ∧ m ≤ j
theorem NearOk.step {L : List Lk} {f : Int} {N i : Nat} {os : List Int} {m q d : Int} (hok : LksOk L N) (hi : i < N) (h : NearOk L f i os m)
    (hd : if placeB (i : Int) N && placeB q N then Gr.IsHops (Adj L f) ((i : Nat) : Int).toNat q.toNat d ∧ d < N else d = -1) :
    NearOk L f i (os ++ [q]) (if 0 ≤ d ∧ (m < 0 ∨ d < m) then d else m) := by
  intro o ho j hb
  have hoN : o < N := Gr.Ball.lt (Adj.ltL hok) hi hb
  rcases List.mem_append.1 ho with ho | ho
  · obtain ⟨h1, h2⟩ := h o ho j hb
    split <;> omega
  · simp at ho
    have hp1 : placeB (i : Int) N = true := by unfold placeB; simp; omega
    have hp2 : placeB q N = true := by unfold placeB; simp; omega
    rw [hp1, hp2] at hd
    simp only [Bool.and_self, if_true] at hd
    have hq : q.toNat = o := by omega
    rw [hq, Int.toNat_natCast] at hd
    rcases hd.1 with ⟨-, h2⟩ | ⟨n, h1, h2, h3⟩
    · exact absurd hb (h2 j)
    · have := h3 j hb
      split <;> omega
attribute [local go_sem ↓] Go.wp_at_zero Go.wp_at_succ
set_option maxRecDepth 100000 in
set_option maxHeartbeats 8000000 in
theorem roundParts_walk (a0 : Option Addr) (c0 : Nat) (l0 : List Int) (n1 n2 n3 : Int) (w : World) (h0 : InRow w a0 c0 l0) (k1 : In64 n1) (k2 : In64 n2) (k3 : In64 n3) :
    Calls Tryz.prog 8 #[.slice a0 l0.length c0, .int .i64 n1, .int .i64 n2, .int .i64 n3] w fun e w' => e = .returned (.bool true) ∧ Below w.heap.size w w' := by
  have I1 := Lib.hid k1
  have I2 := Lib.hid k2
  have I3 := Lib.hid k3
  clear k1 k2 k3
  have H0 := Lib.hid h0
  clear h0
  go_enter Tryz.func8, Tryz.ntmps8
  go_wp2_with fail
  refine (awake9 _).mono ?_
  rintro e w1 ⟨rfl, hb1⟩
  have J0 := Lib.hid (H0.out.call hb1)
  have B1 := Lib.hid hb1
  clear hb1
  go_wp2_with fail
  refine (net_any _ _ l0 c0 J0.out.len J0.out.le J0.out.rd J0.out.in64).mono ?_
  rintro e w2 ⟨p, h, rfl, hok, hown, hb⟩
  have B2 := Lib.hid (since_trans B1.out hb)
  have OK := Lib.hid hok
  have GD := Lib.hid hok.good
  have NG := Lib.hid hok.good.netG
  have P0 : Hid (NW w (w2.alloc (.cells #[.int .i64 p.proto, .int .i64 p.cap, .int .i64 p.k, .slice h.an p.nodes.length h.cn, .slice h.al p.links.length h.cl, .slice h.ad p.dests.length h.cd, .slice h.ac p.checks.length h.cc] 29)) w2.heap.size p h []) := Lib.hid ⟨PB.begin B2.out hown.net, by intro z hz; cases hz⟩
  have hn2 := hok.n.1
  have hn7 := hok.n.2
  have hl9 := hok.l9
  have HD0 := Lib.hid (dest0 (p := p) (by have := hok.d12.1; omega))
  clear hb hown hok J0
  unfold netV netVal
  go_upto_region 3 with fail
  generalize (w2.alloc (.cells #[.int .i64 p.proto, .int .i64 p.cap, .int .i64 p.k, .slice h.an p.nodes.length h.cn, .slice h.al p.links.length h.cl, .slice h.ad p.dests.length h.cd, .slice h.ac p.checks.length h.cc] 29)) = w3 at *
  generalize w2.heap.size = bp at *
  clear B1 B2
  obtain ⟨g0, g1, g2, g3, g4, g5, g6⟩ := P0.out.pb.all
  have hd1 := OK.out.d12.1
  go_wp2_with fail
  refine (pick9_any n1 512 _ I1.out (by omega) (by omega)).mono ?_
  rintro e w' ⟨rfl, rfl⟩
  generalize pickV n1 512 = x at *
  go_wp2_with fail
  refine (pick9_any n2 8 _ I2.out (by omega) (by omega)).mono ?_
  rintro e w' ⟨rfl, rfl⟩
  have ha := pickV_in (c := n2) (n := 8) (by omega)
  generalize pickV n2 8 = a at *
  obtain ⟨a, rfl⟩ : ∃ k : Nat, a = k := ⟨a.toNat, by omega⟩
  obtain ⟨ha0, ha1⟩ := ha
  go_wp2_with fail
  refine (pick9_any n3 8 _ I3.out (by omega) (by omega)).mono ?_
  rintro e w' ⟨rfl, rfl⟩
  have hb := pickV_in (c := n3) (n := 8) (by omega)
  generalize pickV n3 8 = b at *
  obtain ⟨b, rfl⟩ : ∃ k : Nat, b = k := ⟨b.toNat, by omega⟩
  obtain ⟨hb0, hb1⟩ := hb
  go_wp2_with fail
  refine (runX_any p h x 0 a (by omega) _ P0.out.net GD.out HD0.out).mono ?_
  rintro e w4 ⟨Z, A, c, rfl, hZ, hL⟩
  have N4 : Hid (NR w w4 bp p h Z A) := Lib.hid ⟨P0.out.call hL.below, hL.rts⟩
  have HZ := Lib.hid hZ
  clear hZ hL g0 g1 g2 g3 g4 g5 g6
  go_wp2_with fail
  go_loopw [14, 15] (fun sl si wx => ∃ (k : Nat) (L : List RtZ) (A : Option Addr) (c : Nat), k ≤ b ∧ si = .int .i64 k ∧ sl = .slice A L.length c ∧ L.map (·.1) = stL p (runF p x 0 (a + k)) ∧ NR w wx bp p h L A) (fun _ si _ => b - (intOf si).toNat)
  case atStart => exact ⟨0, Z, A, c, Nat.zero_le _, rfl, rfl, HZ.out, N4.out⟩
  case round =>
    obtain ⟨k, L, A', c', hk, rfl, rfl, hL, hN⟩ := hrel
    have NX := Lib.hid hN
    have HL := Lib.hid hL
    have HLl := Lib.hid (len_of hL)
    clear hN hL
    obtain ⟨g0, g1, g2, g3, g4, g5, g6⟩ := NX.out.nw.pb.all
    by_cases hlt : (k : Int) < (b : Int)
    · go_wp2_with fail
      refine (stepR_any p h x 0 (runF p x 0 (a + k)) L A' c' _ NX.out.nw.net GD.out HD0.out NX.out.rts HL.out (run_fits NG.out _)).mono ?_
      rintro e w5 ⟨Y, A5, c5, rfl, hY, hW5⟩
      have HY := Lib.hid (show Y.map (·.1) = stL p (runF p x 0 (a + (k + 1))) from hY)
      have N5 : Hid (NR w w5 bp p h Y A5) := Lib.hid ⟨NX.out.nw.call hW5.below, hW5.rts⟩
      clear hY hW5 g0 g1 g2 g3 g4 g5 g6
      go_wp2
      go_roundw
      case rel => exact ⟨k + 1, Y, A5, c5, by omega, by go_num, rfl, HY.out, N5.out⟩
      case measure => simp [intOf]; omega
    · obtain rfl : k = b := by omega
      have hL12 : L.length ≤ 12 := by have := HLl.out; omega
      have hq1 : ((L.length : Int) != (p.nodes.length : Int)) = false := by have := HLl.out; simp; omega
      go_wp2_with fail
      have hh := runX_any p h x 0 (a + k) (by omega) _ NX.out.nw.net GD.out HD0.out
      rw [show (((a + k : Nat)) : Int) = (a : Int) + (k : Int) from by omega] at hh
      refine hh.mono ?_
      rintro e w6 ⟨Y, A6, c6, rfl, hY, hW6⟩
      have N6 := Lib.hid (NX.out.call hW6.below)
      have Y6 := Lib.hid hW6.rts
      have HY := Lib.hid hY
      have hY12 : Y.length ≤ 12 := by have := len_of hY; omega
      clear hh hY hW6 g0 g1 g2 g3 g4 g5 g6
      go_wp2_with fail
      refine (sameR_any L Y A' A6 c' c6 _ N6.out.rts Y6.out (by omega) (by omega)).mono ?_
      rintro e w7 ⟨rfl, hb7⟩
      rw [HL.out, HY.out, show decide (stL p (runF p x 0 (a + k)) = stL p (runF p x 0 (a + k))) = true from decide_eq_true rfl]
      have N7 := Lib.hid (N6.out.call hb7)
      clear hb7
      go_wp2_with fail
      clear hlt
      go_loopw [16] (fun si wx => ∃ i : Nat, i ≤ L.length ∧ si = .int .i64 i ∧ Below w7.heap.size w7 wx) (fun si _ => L.length - (intOf si).toNat)
      case atStart => exact ⟨0, Nat.zero_le _, rfl, Below.refl _ _⟩
      case round =>
        obtain ⟨i, hi, rfl, hB⟩ := hrel
        have BX := Lib.hid hB
        have N8 := Lib.hid (N7.out.call hB)
        by_cases hlt : i < L.length
        · have hiN : i < p.nodes.length := by have := HLl.out; omega
          obtain ⟨ds, bd, od, hds, ed, hbd, hcd, hrd⟩ := N8.out.nw.net.dest1 (d := 0) (by omega)
          simp only [Nat.zero_mul, Nat.add_zero] at hcd
          have HED := Lib.hid ed
          have HOR := Lib.hid (show orgOf p 0 = ds.1.origins from by unfold orgOf; simp [hds])
          have hosl := GD.out.small.origins _ (List.mem_of_getElem? hds)
          have hdl : (0 : Int) < (p.dests.length : Int) := by omega
          obtain ⟨wo, rfl⟩ : ∃ x, x = wr := ⟨_, rfl⟩
          have HCD : Hid (∀ wy, Below wo.heap.size wo wy → wy.cell? ⟨bp, 5, none⟩ = some (.slice (some ⟨bd, od, none⟩) p.dests.length h.cd) ∧ wy.cell? ⟨bd, od + 1, none⟩ = some (.slice ds.2.1 ds.1.origins.length ds.2.2)) := Lib.hid (fun wy hb2 => by
            obtain ⟨-, -, -, -, -, g5, -⟩ := (N8.out.call hb2).nw.pb.all
            rw [HED.out] at g5
            exact ⟨g5, (hb2.cell (p := ⟨bd, _, none⟩) hbd).trans hcd⟩)
          have HRD := Lib.hid hrd
          clear hds ed hrd hcd hbd hB
          go_wp2_with fail
          go_loopw [17, 18] (fun sn sk wx => ∃ (j : Nat) (m : Int), j ≤ ds.1.origins.length ∧ sk = .int .i64 j ∧ sn = .int .i64 m ∧ NearOk p.links x i (ds.1.origins.take j) m ∧ Below wo.heap.size wo wx) (fun _ sk _ => ds.1.origins.length - (intOf sk).toNat)
          case atStart => exact ⟨0, -1, Nat.zero_le _, rfl, rfl, (fun o ho => by simp at ho), Below.refl _ _⟩
          case round =>
            obtain ⟨j, m, hj, rfl, rfl, hno, hB2⟩ := hrel
            have WY := Lib.hid hB2
            have HNO := Lib.hid hno
            have N9 := Lib.hid (N8.out.call hB2)
            obtain ⟨d5, d1⟩ := HCD.out _ hB2
            clear hno
            by_cases hjl : j < ds.1.origins.length
            · obtain ⟨q, hq⟩ : ∃ q, ds.1.origins[j]? = some q := ⟨_, List.getElem?_eq_getElem hjl⟩
              obtain ⟨b3, o3, e3, hb3, hc3⟩ := HRD.out.one (ints_at hq)
              have HE3 := Lib.hid e3
              have HT : Hid (ds.1.origins.take (j + 1) = ds.1.origins.take j ++ [q]) := Lib.hid (by rw [List.take_add_one, hq]; rfl)
              have HC : Hid (∀ wy, Below wo.heap.size wo wy → (wy.cell? ⟨bp, 0, none⟩ = some (.int .i64 p.proto) ∧ wy.cell? ⟨bp, 1, none⟩ = some (.int .i64 p.cap) ∧ wy.cell? ⟨bp, 2, none⟩ = some (.int .i64 p.k) ∧ wy.cell? ⟨bp, 3, none⟩ = some (.slice h.an p.nodes.length h.cn) ∧ wy.cell? ⟨bp, 4, none⟩ = some (.slice h.al p.links.length h.cl) ∧ wy.cell? ⟨bp, 5, none⟩ = some (.slice (some ⟨bd, od, none⟩) p.dests.length h.cd) ∧ wy.cell? ⟨bp, 6, none⟩ = some (.slice h.ac p.checks.length h.cc)) ∧ wy.cell? ⟨bd, od + 1, none⟩ = some (.slice (some ⟨b3, o3, none⟩) ds.1.origins.length ds.2.2) ∧ wy.cell? ⟨b3, o3 + j, none⟩ = some (.int .i64 q)) := Lib.hid (fun wy hb2 => by
                obtain ⟨q0, q1, q2, q3, q4, q5, q6⟩ := (N8.out.call hb2).nw.pb.all
                obtain ⟨-, d1⟩ := HCD.out _ hb2
                rw [HED.out] at q5
                rw [HE3.out] at d1
                exact ⟨⟨q0, q1, q2, q3, q4, q5, q6⟩, d1, (hb2.cell (p := ⟨b3, _, none⟩) hb3).trans hc3⟩)
              have CH : Hid (∀ wy, Below wo.heap.size wo wy → Calls Tryz.prog 27 #[.agg #[.int .i64 p.proto, .int .i64 p.cap, .int .i64 p.k, .slice h.an p.nodes.length h.cn, .slice h.al p.links.length h.cl, .slice (some ⟨bd, od, none⟩) p.dests.length h.cd, .slice h.ac p.checks.length h.cc], .int .i64 x, .int .i64 (i : Int), .int .i64 q] wy fun e w' => ∃ d : Int, e = .returned (.int .i64 d) ∧ (if placeB (i : Int) p.nodes.length && placeB q p.nodes.length then Gr.IsHops (Adj p.links x) ((i : Nat) : Int).toNat q.toNat d ∧ d < p.nodes.length else d = -1) ∧ Below wo.heap.size wo w') := Lib.hid (fun wy hb2 => by
                have hh := hops_any p h x i q wy (N8.out.call hb2).nw.net GD.out
                unfold netV netVal at hh
                rw [HED.out] at hh
                exact hh.mono fun e w' ⟨d, h1, h2, h3⟩ => ⟨d, h1, h2, since_trans hb2 h3⟩)
              have hj0 : (0 : Int) ≤ (j : Int) := by omega
              have hjl' : (j : Int) < (ds.1.origins.length : Int) := by omega
              have hdl' : 0 < p.dests.length := by omega
              rw [e3] at d1
              clear hq e3 hb3 hc3
              go_upto_region 20 with fail
              have hBd := below_drew hB2
              clear d5 d1
              refine wp_region_held_drew (S := (fun wy => (wy.cell? ⟨bp, 0, none⟩ = some (.int .i64 p.proto) ∧ wy.cell? ⟨bp, 1, none⟩ = some (.int .i64 p.cap) ∧ wy.cell? ⟨bp, 2, none⟩ = some (.int .i64 p.k) ∧ wy.cell? ⟨bp, 3, none⟩ = some (.slice h.an p.nodes.length h.cn) ∧ wy.cell? ⟨bp, 4, none⟩ = some (.slice h.al p.links.length h.cl) ∧ wy.cell? ⟨bp, 5, none⟩ = some (.slice (some ⟨bd, od, none⟩) p.dests.length h.cd) ∧ wy.cell? ⟨bp, 6, none⟩ = some (.slice h.ac p.checks.length h.cc)) ∧ wy.cell? ⟨bd, od + 1, none⟩ = some (.slice (some ⟨b3, o3, none⟩) ds.1.origins.length ds.2.2) ∧ wy.cell? ⟨b3, o3 + j, none⟩ = some (.int .i64 q))) (by kernel_rfl) (HC.out _ hBd) (fun hHeld0 => ?_)
              refine take_list (i := 0) (v := ?_) rfl (by kernel_rfl) (by kernel_rfl) (by kernel_rfl) (fun _ _ _ h => h) (Or.inl ⟨by rfl, ?_⟩) (by assumption) ?_
              rotate_left
              · (intro w hSw; (try dsimp only at hSw); go_simp; try (with_reducible rfl))
              try simp only [Act.put, List.setIfInBounds_toArray, List.set_cons_zero, List.set_cons_succ]
              refine take_list (i := 1) (v := ?_) rfl (by kernel_rfl) (by kernel_rfl) (by kernel_rfl) (fun _ _ _ h => h) (Or.inl ⟨by rfl, ?_⟩) (by assumption) ?_
              rotate_left
              · (intro w hSw; (try dsimp only at hSw); go_simp; try (with_reducible rfl))
              try simp only [Act.put, List.setIfInBounds_toArray, List.set_cons_zero, List.set_cons_succ]
              refine take_list (i := 2) (v := ?_) rfl (by kernel_rfl) (by kernel_rfl) (by kernel_rfl) (fun _ _ _ h => h) (Or.inl ⟨by rfl, ?_⟩) (by assumption) ?_
              rotate_left
              · (intro w hSw; (try dsimp only at hSw); go_simp; try (with_reducible rfl))
              try simp only [Act.put, List.setIfInBounds_toArray, List.set_cons_zero, List.set_cons_succ]
              refine take_list (i := 3) (v := ?_) rfl (by kernel_rfl) (by kernel_rfl) (by kernel_rfl) (fun _ _ _ h => h) (Or.inl ⟨by rfl, ?_⟩) (by assumption) ?_
              rotate_left
              · (intro w hSw; (try dsimp only at hSw); go_simp; try (with_reducible rfl))
              try simp only [Act.put, List.setIfInBounds_toArray, List.set_cons_zero, List.set_cons_succ]
              refine take_list (i := 4) (v := ?_) rfl (by kernel_rfl) (by kernel_rfl) (by kernel_rfl) (fun _ _ _ h => h) (Or.inl ⟨by rfl, ?_⟩) (by assumption) ?_
              rotate_left
              · (intro w hSw; (try dsimp only at hSw); go_simp; try (with_reducible rfl))
              try simp only [Act.put, List.setIfInBounds_toArray, List.set_cons_zero, List.set_cons_succ]
              refine take_list (i := 5) (v := ?_) rfl (by kernel_rfl) (by kernel_rfl) (by kernel_rfl) (fun _ _ _ h => h) (Or.inl ⟨by rfl, ?_⟩) (by assumption) ?_
              rotate_left
              · (intro w hSw; (try dsimp only at hSw); go_simp; try (with_reducible rfl))
              try simp only [Act.put, List.setIfInBounds_toArray, List.set_cons_zero, List.set_cons_succ]
              refine take_list (i := 6) (v := ?_) rfl (by kernel_rfl) (by kernel_rfl) (by kernel_rfl) (fun _ _ _ h => h) (Or.inl ⟨by rfl, ?_⟩) (by assumption) ?_
              rotate_left
              · (intro w hSw; (try dsimp only at hSw); go_simp; try (with_reducible rfl))
              try simp only [Act.put, List.setIfInBounds_toArray, List.set_cons_zero, List.set_cons_succ]
              refine take_list (i := 7) (v := ?_) rfl (by kernel_rfl) (by kernel_rfl) (by kernel_rfl) (fun _ _ _ h => h) (Or.inl ⟨by rfl, ?_⟩) (by assumption) ?_
              rotate_left
              · (intro w hSw; (try dsimp only at hSw); go_simp; try (with_reducible rfl))
              try simp only [Act.put, List.setIfInBounds_toArray, List.set_cons_zero, List.set_cons_succ]
              refine take_list (i := 8) (v := ?_) rfl (by kernel_rfl) (by kernel_rfl) (by kernel_rfl) (fun _ _ _ h => h) (Or.inl ⟨by rfl, ?_⟩) (by assumption) ?_
              rotate_left
              · (intro w hSw; (try dsimp only at hSw); go_simp; try (with_reducible rfl))
              try simp only [Act.put, List.setIfInBounds_toArray, List.set_cons_zero, List.set_cons_succ]
              refine take_list (i := 9) (v := ?_) rfl (by kernel_rfl) (by kernel_rfl) (by kernel_rfl) (fun _ _ _ h => h) (Or.inl ⟨by rfl, ?_⟩) (by assumption) ?_
              rotate_left
              · (intro w hSw; (try dsimp only at hSw); go_simp; try (with_reducible rfl))
              try simp only [Act.put, List.setIfInBounds_toArray, List.set_cons_zero, List.set_cons_succ]
              refine take_list (i := 10) (v := ?_) rfl (by kernel_rfl) (by kernel_rfl) (by kernel_rfl) (fun _ _ _ h => h) (Or.inl ⟨by rfl, ?_⟩) (by assumption) ?_
              rotate_left
              · (intro w hSw; (try dsimp only at hSw); go_simp; try (with_reducible rfl))
              try simp only [Act.put, List.setIfInBounds_toArray, List.set_cons_zero, List.set_cons_succ]
              refine wpAnyH_ready (rs := [11]) (by kernel_rfl) (by simp) ?_
              refine cons_list rfl (fun K hK => ?_) AllReadyH.nil
              go_simp
              (go_at_call 27; refine (CH.out _ hBd).mono ?_; rintro e w10 ⟨d, rfl, hd, hB10⟩)
              refine hK.out _ _ (HC.out _ (by assumption)) (fun hHeld1 => ?_)
              clear hK K hHeld0
              try simp only [Act.put, List.setIfInBounds_toArray, List.set_cons_zero, List.set_cons_succ]
              refine take_list (i := 12) (v := ?_) rfl (by kernel_rfl) (by kernel_rfl) (by kernel_rfl) (fun _ _ _ h => h) (Or.inl ⟨by rfl, ?_⟩) (by assumption) ?_
              rotate_left
              · (intro w hSw; (try dsimp only at hSw); go_simp; try (with_reducible rfl))
              try simp only [Act.put, List.setIfInBounds_toArray, List.set_cons_zero, List.set_cons_succ]
              refine wpAnyH_done (by kernel_rfl) ?_ _
              clear hHeld1
              have HST := Lib.hid (NearOk.step GD.out.lksOk hiN HNO.out hd)
              have B10 := Lib.hid hB10
              rw [← HT.out] at HST
              clear hd hB10 hBd hB2
              by_cases h0 : 0 ≤ d
              · by_cases hm : m < 0
                · have HN2 : Hid (NearOk p.links x i (ds.1.origins.take (j + 1)) d) := Lib.hid (by have := HST.out; rwa [if_pos ⟨h0, .inl hm⟩] at this)
                  go_wp2
                  go_roundw
                  case rel => exact ⟨j + 1, d, by omega, by go_num, rfl, HN2.out, B10.out⟩
                  case measure => simp [intOf]; omega
                · by_cases hdm : d < m
                  · have HN2 : Hid (NearOk p.links x i (ds.1.origins.take (j + 1)) d) := Lib.hid (by have := HST.out; rwa [if_pos ⟨h0, .inr hdm⟩] at this)
                    go_wp2
                    go_roundw
                    case rel => exact ⟨j + 1, d, by omega, by go_num, rfl, HN2.out, B10.out⟩
                    case measure => simp [intOf]; omega
                  · have HN2 : Hid (NearOk p.links x i (ds.1.origins.take (j + 1)) m) := Lib.hid (by have := HST.out; rwa [if_neg (by omega)] at this)
                    go_wp2
                    go_roundw
                    case rel => exact ⟨j + 1, m, by omega, by go_num, rfl, HN2.out, B10.out⟩
                    case measure => simp [intOf]; omega
              · have HN2 : Hid (NearOk p.links x i (ds.1.origins.take (j + 1)) m) := Lib.hid (by have := HST.out; rwa [if_neg (by omega)] at this)
                go_wp2
                go_roundw
                case rel => exact ⟨j + 1, m, by omega, by go_num, rfl, HN2.out, B10.out⟩
                case measure => simp [intOf]; omega
            · obtain ⟨z, hz⟩ : ∃ z, L[i]? = some z := ⟨_, List.getElem?_eq_getElem hlt⟩
              have ez : z.1 = runF p x 0 (a + k) i := by
                have e : (L.map (·.1))[i]? = some z.1 := by rw [List.getElem?_map, hz]; rfl
                rw [HL.out, stL_at hiN] at e
                injection e with e
                exact e.symm
              obtain ⟨bz, oz, e, hbz, z0, z1, z2⟩ := N9.out.rts.at_ hz
              have HNR : Hid (z.1.kind ≠ 0 → 0 ≤ m ∧ m ≤ (a : Int) + (k : Int)) := Lib.hid (fun hk => by
                rw [ez] at hk
                obtain ⟨o, ho, q, hq, hb⟩ := run_near GD.out.lksOk NG.out (a + k) i hk
                have hoo : (o : Int) ∈ ds.1.origins := by
                  rw [← HOR.out]
                  unfold ownR at ho
                  split at ho
                  · rename_i hc; exact hc.2
                  · exact absurd rfl ho
                have hno := HNO.out
                rw [List.take_of_length_le (by omega)] at hno
                have := hno o hoo q (Gr.Ball.symm Adj.symm hb)
                omega)
              subst e
              have BW := Lib.hid (since_trans BX.out WY.out)
              have hi0 : (0 : Int) ≤ (i : Int) := by omega
              clear hz ez z1 z2 hB2 hbz
              by_cases hk0 : z.1.kind = 0
              · have hq0 : (z.1.kind != 0) = false := by simp [hk0]
                clear hk0
                go_wp2
                go_roundw
                case rel => exact ⟨i + 1, by omega, by go_num, BW.out⟩
                case measure => simp [intOf]; omega
              · have hq0 : (z.1.kind != 0) = true := by simp [hk0]
                obtain ⟨hm0, hm1⟩ := HNR.out hk0
                clear hk0
                go_wp2
                go_roundw
                case rel => exact ⟨i + 1, by omega, by go_num, BW.out⟩
                case measure => simp [intOf]; omega
        · clear hB
          go_wp2
          go_ret
          exact ⟨rfl, since_trans N7.out.nw.pb.below BX.out⟩
end Go.Proofs.YtifjppkgbalcpaaGreat

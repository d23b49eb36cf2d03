/- The walk of backstaylaw05.GraphSteps. -/
import Derived.Test.YtconeplgbemblaaLaw5
namespace Go.Proofs.Ytconeplgbemblaa
set_option linter.unusedSimpArgs false
set_option linter.unusedVariables false
open Go.RowKit

/-! ### Plainly -/
theorem least_ex {P : Nat → Prop} : ∀ (n : Nat), P n → ∃ m, P m ∧ ∀ k, P k → m ≤ k := by
  have key : ∀ n, (∃ k, k ≤ n ∧ P k) → ∃ m, P m ∧ ∀ k, P k → m ≤ k := by
    intro n
    induction n with
    | zero => rintro ⟨k, hk, hP⟩; exact ⟨k, hP, fun j _ => by omega⟩
    | succ n ih =>
      rintro ⟨k, hk, hP⟩
      by_cases h : ∃ k, k ≤ n ∧ P k
      · exact ih h
      · exact ⟨k, hP, fun j hj => by
          have : ¬ j ≤ n := fun hle => h ⟨j, hle, hj⟩
          omega⟩
  exact fun n h => key n ⟨n, Nat.le_refl _, h⟩
theorem hops_ex (R : Nat → Nat → Prop) (a b : Nat) : ∃ h : Int, Gr.IsHops R a b h := by
  by_cases h : ∃ k, Gr.Ball R k a b
  · obtain ⟨k, hk⟩ := h
    obtain ⟨m, hm, hl⟩ := least_ex (P := fun k => Gr.Ball R k a b) k hk
    exact ⟨m, .inr ⟨m, rfl, hm, hl⟩⟩
  · exact ⟨-1, .inl ⟨rfl, fun k hk => h ⟨k, hk⟩⟩⟩
noncomputable def hopD (R : Nat → Nat → Prop) (a b : Nat) : Int := Classical.choose (hops_ex R a b)
theorem hopD_is (R : Nat → Nat → Prop) (a b : Nat) : Gr.IsHops R a b (hopD R a b) := Classical.choose_spec (hops_ex R a b)
theorem ar_othL {L : List Lk} {f : Int} {N n i : Nat} (hok : LksOk L N) (hi : i ∈ arL L f n L.length) : ∃ m : Nat, othL L i n = m ∧ m < N ∧ Adj L f n m := by
  obtain ⟨h1, h2⟩ := mem_arL.1 hi
  have hx : L[i]? = some L[i] := List.getElem?_eq_getElem h1
  obtain ⟨m, h3, h4, h5⟩ := ar_oth hok hx h2
  exact ⟨m, by simp [othL, hx, h3], h4, h5⟩
theorem oth_mem {L : List Lk} {f : Int} {N n : Nat} (hok : LksOk L N) (u : Nat) : u ∈ (arL L f n L.length).map (fun i : Nat => (othL L i n).toNat) ↔ Adj L f u n := by
  constructor
  · intro h
    obtain ⟨i, hi, rfl⟩ := List.mem_map.1 h
    obtain ⟨m, h1, _, h3⟩ := ar_othL hok hi
    rw [h1]
    exact Adj.symm _ _ (by simpa using h3)
  · intro h
    obtain ⟨i, x, hx, har, ho⟩ := adj_ar hok (Adj.symm _ _ h)
    refine List.mem_map.2 ⟨i, mem_arL.2 ⟨(List.getElem?_eq_some_iff.1 hx).1, har⟩, ?_⟩
    simp [othL, hx, ho]
/-- The best of the first k neighbours. -/
noncomputable def bestK (L : List Lk) (f : Int) (a b k : Nat) : Int := (((arL L f b L.length).take k).map fun i : Nat => hopD (Adj L f) a (othL L i b).toNat).foldl Gr.bestStep (-1)
theorem bestK_succ {L : List Lk} {f : Int} {a b k i : Nat} (h : (arL L f b L.length)[k]? = some i) : bestK L f a b (k + 1) = Gr.bestStep (bestK L f a b k) (hopD (Adj L f) a (othL L i b).toNat) := by
  unfold bestK
  rw [List.take_add_one, h]
  simp [List.map_append, List.foldl_append]
theorem bestK_all {L : List Lk} {f : Int} {N a b k : Nat} (hok : LksOk L N) (hab : a ≠ b) (hk : (arL L f b L.length).length ≤ k) : Gr.IsHops (Adj L f) a b (bestK L f a b k) := by
  unfold bestK
  rw [List.take_of_length_le hk]
  exact Gr.IsHops.steps hab (hopD_is _ _) (by rw [List.map_map]; rfl) (oth_mem hok)
theorem bestK_low (L : List Lk) (f : Int) (a b : Nat) : ∀ k, -1 ≤ bestK L f a b k := by
  have key : ∀ (l : List Int) (x : Int), -1 ≤ x → -1 ≤ l.foldl Gr.bestStep x := by
    intro l
    induction l with
    | nil => intro x hx; exact hx
    | cons y l ih => intro x hx; refine ih _ ?_; unfold Gr.bestStep; split <;> omega
  exact fun k => key _ _ (by omega)
theorem hop_node {p : Net} {h : Hd} {w : World} {f : Int} {a m : Nat} (hp : NetR w w.heap.size p h) (hg : Good p) (ha : a < p.nodes.length) (hm : m < p.nodes.length) :
    Calls Try.prog 20 #[netV p h, .int .i64 f, .int .i64 a, .int .i64 m] w fun e w' => e = .returned (.int .i64 (hopD (Adj p.links f) a m)) ∧ (-1 ≤ hopD (Adj p.links f) a m ∧ hopD (Adj p.links f) a m < p.nodes.length) ∧ Below w.heap.size w w' := by
  refine (hops_in (a := (a : Int)) (b := (m : Int)) hp hg (by omega) (by omega)).mono fun e w' ⟨d, h1, h2, h3⟩ => ?_
  have e2 := h2.1.uniq (hopD_is _ _ _)
  simp only [Int.toNat_natCast] at e2
  rw [e2] at h1 h2
  exact ⟨h1, h2.2, h3⟩

attribute [local go_sem ↓] Go.wp_at_zero Go.wp_at_succ
set_option maxRecDepth 100000 in
set_option maxHeartbeats 8000000 in
theorem graphSteps_walk (a0 : Option Addr) (c0 : Nat) (l0 : List Int) (n1 n2 n3 : Int) (w : World) (h0 : InRow w a0 c0 l0) (k1 : In64 n1) (k2 : In64 n2) (k3 : In64 n3) :
    Calls Try.prog 6 #[.slice a0 l0.length c0, .int .i64 n1, .int .i64 n2, .int .i64 n3] w fun e w' => e = .returned (.bool true) ∧ Below w.heap.size w w' := by
  have I1 := Lib.hid k1
  have I2 := Lib.hid k2
  have I3 := Lib.hid k3
  clear k1 k2 k3
  have H0 := Lib.hid h0
  clear h0
  go_enter Try.func6, Try.ntmps6
  go_wp2_with fail
  refine (awake5 _).mono ?_
  rintro e w1 ⟨rfl, hb1⟩
  have J0 := Lib.hid (H0.out.call hb1)
  have B1 := Lib.hid hb1
  clear hb1
  go_wp2_with fail
  refine (net_any _ _ l0 c0 J0.out.len J0.out.le J0.out.rd J0.out.in64).mono ?_
  rintro e w2 ⟨p, h, rfl, hok, hown, hb⟩
  have B2 := Lib.hid (since_trans B1.out hb)
  have OK := Lib.hid hok
  have GD := Lib.hid hok.good
  have P0 : Hid (PB w (w2.alloc (.cells #[.int .i64 p.proto, .int .i64 p.cap, .int .i64 p.k, .slice h.an p.nodes.length h.cn, .slice h.al p.links.length h.cl, .slice h.ad p.dests.length h.cd, .slice h.ac p.checks.length h.cc] 29)) w2.heap.size p h) := Lib.hid (PB.begin B2.out hown.net)
  have hn2 := hok.n.1
  have hn7 := hok.n.2
  clear hb hown hok
  unfold netV netVal
  obtain ⟨g0, g1, g2, g3, g4, g5, g6⟩ := P0.out.all
  go_wp2_with fail
  refine (pick5_any n1 512 _ I1.out (by omega) (by omega)).mono ?_
  rintro e w' ⟨rfl, rfl⟩
  generalize pickV n1 512 = x
  go_wp2_with fail
  refine (pick5_any n2 p.nodes.length _ I2.out (by omega) (by omega)).mono ?_
  rintro e w' ⟨rfl, rfl⟩
  have ha := pickV_in (c := n2) (n := p.nodes.length) (by omega)
  generalize pickV n2 p.nodes.length = a at *
  go_wp2_with fail
  refine (pick5_any n3 p.nodes.length _ I3.out (by omega) (by omega)).mono ?_
  rintro e w' ⟨rfl, rfl⟩
  have hb := pickV_in (c := n3) (n := p.nodes.length) (by omega)
  generalize pickV n3 p.nodes.length = b at *
  obtain ⟨a, rfl⟩ : ∃ k : Nat, a = k := ⟨a.toNat, by omega⟩
  obtain ⟨b, rfl⟩ : ∃ k : Nat, b = k := ⟨b.toNat, by omega⟩
  have ha' : a < p.nodes.length := by omega
  have hb' : b < p.nodes.length := by omega
  clear ha hb
  go_wp2_with fail
  refine (around_in P0.out.net GD.out).mono ?_
  rintro e w3 ⟨A, c, rfl, hown, hb1⟩
  have P1 := Lib.hid (P0.out.call hb1)
  have R1 := Lib.hid hown.rd
  have hM : (arL p.links x b p.links.length).length ≤ 16 := Nat.le_trans (arL_le _ _ _ _) GD.out.l16
  clear hb1 hown g0 g1 g2 g3 g4 g5 g6
  obtain ⟨M, hMe⟩ : ∃ M, M = (arL p.links x b p.links.length).length := ⟨_, rfl⟩
  have HM := Lib.hid hMe
  rw [← hMe] at hM R1 ⊢
  clear hMe
  go_wp2_with fail
  go_loopw [15, 17] (fun sb si wx => ∃ k : Nat, k ≤ M ∧ si = .int .i64 k ∧ sb = .int .i64 (bestK p.links x a b k) ∧ PB w wx w2.heap.size p h ∧ Rd wx wx.heap.size 1 A M (nats (arL p.links x b p.links.length))) (fun _ si _ => M - (intOf si).toNat)
  case atStart => exact ⟨0, Nat.zero_le _, rfl, by simp [bestK], P1.out, R1.out⟩
  case round =>
    clear P1 R1 P0
    obtain ⟨k, hk, rfl, rfl, hP, hR⟩ := hrel
    have PX := Lib.hid hP
    have RX := Lib.hid hR
    have hbl := bestK_low p.links x a b k
    clear hP hR
    by_cases hlt : k < M
    · obtain ⟨i, hi⟩ : ∃ i, (arL p.links x b p.links.length)[k]? = some i := ⟨_, List.getElem?_eq_getElem (by have := HM.out; omega)⟩
      have HS := Lib.hid (bestK_succ (a := a) hi)
      obtain ⟨m, hm, hmN, -⟩ := ar_othL GD.out.lksOk (List.mem_of_getElem? hi)
      rw [hm, Int.toNat_natCast] at HS
      obtain ⟨b', o, rfl, hbb, hcc⟩ := RX.out.one (nats_at hi)
      clear hi
      have hltz : (k : Int) < (M : Int) := by omega
      have hkz : (0 : Int) ≤ (k : Int) := by omega
      have HC : Hid (∀ wy, Below wr.heap.size wr wy → (wy.cell? ⟨w2.heap.size, 0, none⟩ = some (.int .i64 p.proto) ∧ wy.cell? ⟨w2.heap.size, 1, none⟩ = some (.int .i64 p.cap) ∧ wy.cell? ⟨w2.heap.size, 2, none⟩ = some (.int .i64 p.k) ∧ wy.cell? ⟨w2.heap.size, 3, none⟩ = some (.slice h.an p.nodes.length h.cn) ∧
        wy.cell? ⟨w2.heap.size, 4, none⟩ = some (.slice h.al p.links.length h.cl) ∧ wy.cell? ⟨w2.heap.size, 5, none⟩ = some (.slice h.ad p.dests.length h.cd) ∧ wy.cell? ⟨w2.heap.size, 6, none⟩ = some (.slice h.ac p.checks.length h.cc)) ∧ wy.cell? ⟨b', o + k, none⟩ = some (.int .i64 (i : Int))) := Lib.hid (fun wy hb => ⟨(PX.out.call hb).all, (hb.cell (p := ⟨b', o + k, none⟩) hbb).trans hcc⟩)
      have C1 : Hid (∀ wy, Below wr.heap.size wr wy → Calls Try.prog 16 #[.agg #[.int .i64 p.proto, .int .i64 p.cap, .int .i64 p.k, .slice h.an p.nodes.length h.cn, .slice h.al p.links.length h.cl, .slice h.ad p.dests.length h.cd, .slice h.ac p.checks.length h.cc], .int .i64 i, .int .i64 b] wy fun e w' => e = .returned (.int .i64 m) ∧ Below wy.heap.size wy w') := Lib.hid (fun wy hb =>
        (otherX_any p h i b wy (PX.out.call hb).net GD.out).mono fun e w' ⟨h1, h2⟩ => ⟨by rw [h1, hm], h2⟩)
      have C2 : Hid (∀ wy, Below wr.heap.size wr wy → Calls Try.prog 20 #[.agg #[.int .i64 p.proto, .int .i64 p.cap, .int .i64 p.k, .slice h.an p.nodes.length h.cn, .slice h.al p.links.length h.cl, .slice h.ad p.dests.length h.cd, .slice h.ac p.checks.length h.cc], .int .i64 x, .int .i64 a, .int .i64 m] wy fun e w' => e = .returned (.int .i64 (hopD (Adj p.links x) a m)) ∧ (-1 ≤ hopD (Adj p.links x) a m ∧ hopD (Adj p.links x) a m < p.nodes.length) ∧ Below wy.heap.size wy w') := Lib.hid (fun wy hb =>
        hop_node (PX.out.call hb).net GD.out ha' hmN)
      have hs0 : Below wr.heap.size wr wr := Below.refl _ _
      have hsd : Below wr.heap.size wr wr.drew := (Below.refl _ _).drew
      clear hcc hm
      go_wp2_with fail
      refine wp_region_held_drew (S := (fun wx => (wx.cell? ⟨w2.heap.size, 0, none⟩ = some (.int .i64 p.proto) ∧ wx.cell? ⟨w2.heap.size, 1, none⟩ = some (.int .i64 p.cap) ∧ wx.cell? ⟨w2.heap.size, 2, none⟩ = some (.int .i64 p.k) ∧ wx.cell? ⟨w2.heap.size, 3, none⟩ = some (.slice h.an p.nodes.length h.cn) ∧ wx.cell? ⟨w2.heap.size, 4, none⟩ = some (.slice h.al p.links.length h.cl) ∧ wx.cell? ⟨w2.heap.size, 5, none⟩ = some (.slice h.ad p.dests.length h.cd) ∧ wx.cell? ⟨w2.heap.size, 6, none⟩ = some (.slice h.ac p.checks.length h.cc)) ∧ wx.cell? ⟨b', o + k, none⟩ = some (.int .i64 (i : Int)))) (by kernel_rfl) (HC.out _ hsd) (fun hHeld0 => ?_)
      refine take_list (i := 0) (v := ?_) rfl (by kernel_rfl) (by kernel_rfl) (by kernel_rfl) (fun _ _ _ h => h) (Or.inl ⟨by rfl, ?_⟩) (by assumption) ?_
      rotate_left
      · (intro w hSw; (try dsimp only at hSw); go_simp; try (with_reducible rfl))
      try simp only [Act.put, List.setIfInBounds_toArray, List.set_cons_zero, List.set_cons_succ]
      refine take_list (i := 1) (v := ?_) rfl (by kernel_rfl) (by kernel_rfl) (by kernel_rfl) (fun _ _ _ h => h) (Or.inl ⟨by rfl, ?_⟩) (by assumption) ?_
      rotate_left
      · (intro w hSw; (try dsimp only at hSw); go_simp; try (with_reducible rfl))
      try simp only [Act.put, List.setIfInBounds_toArray, List.set_cons_zero, List.set_cons_succ]
      refine take_list (i := 2) (v := ?_) rfl (by kernel_rfl) (by kernel_rfl) (by kernel_rfl) (fun _ _ _ h => h) (Or.inl ⟨by rfl, ?_⟩) (by assumption) ?_
      rotate_left
      · (intro w hSw; (try dsimp only at hSw); go_simp; try (with_reducible rfl))
      try simp only [Act.put, List.setIfInBounds_toArray, List.set_cons_zero, List.set_cons_succ]
      refine take_list (i := 3) (v := ?_) rfl (by kernel_rfl) (by kernel_rfl) (by kernel_rfl) (fun _ _ _ h => h) (Or.inl ⟨by rfl, ?_⟩) (by assumption) ?_
      rotate_left
      · (intro w hSw; (try dsimp only at hSw); go_simp; try (with_reducible rfl))
      try simp only [Act.put, List.setIfInBounds_toArray, List.set_cons_zero, List.set_cons_succ]
      refine take_list (i := 4) (v := ?_) rfl (by kernel_rfl) (by kernel_rfl) (by kernel_rfl) (fun _ _ _ h => h) (Or.inl ⟨by rfl, ?_⟩) (by assumption) ?_
      rotate_left
      · (intro w hSw; (try dsimp only at hSw); go_simp; try (with_reducible rfl))
      try simp only [Act.put, List.setIfInBounds_toArray, List.set_cons_zero, List.set_cons_succ]
      refine take_list (i := 5) (v := ?_) rfl (by kernel_rfl) (by kernel_rfl) (by kernel_rfl) (fun _ _ _ h => h) (Or.inl ⟨by rfl, ?_⟩) (by assumption) ?_
      rotate_left
      · (intro w hSw; (try dsimp only at hSw); go_simp; try (with_reducible rfl))
      try simp only [Act.put, List.setIfInBounds_toArray, List.set_cons_zero, List.set_cons_succ]
      refine take_list (i := 6) (v := ?_) rfl (by kernel_rfl) (by kernel_rfl) (by kernel_rfl) (fun _ _ _ h => h) (Or.inl ⟨by rfl, ?_⟩) (by assumption) ?_
      rotate_left
      · (intro w hSw; (try dsimp only at hSw); go_simp; try (with_reducible rfl))
      try simp only [Act.put, List.setIfInBounds_toArray, List.set_cons_zero, List.set_cons_succ]
      refine take_list (i := 7) (v := ?_) rfl (by kernel_rfl) (by kernel_rfl) (by kernel_rfl) (fun _ _ _ h => h) (Or.inl ⟨by rfl, ?_⟩) (by assumption) ?_
      rotate_left
      · (intro w hSw; (try dsimp only at hSw); go_simp; try (with_reducible rfl))
      try simp only [Act.put, List.setIfInBounds_toArray, List.set_cons_zero, List.set_cons_succ]
      refine take_list (i := 8) (v := ?_) rfl (by kernel_rfl) (by kernel_rfl) (by kernel_rfl) (fun _ _ _ h => h) (Or.inl ⟨by rfl, ?_⟩) (by assumption) ?_
      rotate_left
      · (intro w hSw; (try dsimp only at hSw); go_simp; try (with_reducible rfl))
      try simp only [Act.put, List.setIfInBounds_toArray, List.set_cons_zero, List.set_cons_succ]
      refine wpAnyH_ready (rs := [9]) (by kernel_rfl) (by simp) ?_
      refine cons_list rfl (fun K hK => ?_) AllReadyH.nil
      go_simp
      (go_at_call 16; refine (C1.out _ (by assumption)).mono ?_; rintro e wn ⟨rfl, hbn⟩; (have hsn := since_trans (by assumption) hbn))
      refine hK.out _ _ (HC.out _ (by assumption)) (fun hHeld1 => ?_)
      clear hK K hHeld0
      try simp only [Act.put, List.setIfInBounds_toArray, List.set_cons_zero, List.set_cons_succ]
      refine wpAnyH_ready (rs := [10]) (by kernel_rfl) (by simp) ?_
      refine cons_list rfl (fun K hK => ?_) AllReadyH.nil
      go_simp
      (go_at_call 20; refine (C2.out _ (by assumption)).mono ?_; rintro e w4 ⟨rfl, ⟨hd0, hd1⟩, hbn⟩; (have hs4 := since_trans (by assumption) hbn))
      refine hK.out _ _ (HC.out _ (by assumption)) (fun hHeld2 => ?_)
      clear hK K hHeld1
      try simp only [Act.put, List.setIfInBounds_toArray, List.set_cons_zero, List.set_cons_succ]
      refine take_list (i := 11) (v := ?_) rfl (by kernel_rfl) (by kernel_rfl) (by kernel_rfl) (fun _ _ _ h => h) (Or.inl ⟨by rfl, ?_⟩) (by assumption) ?_
      rotate_left
      · (intro w hSw; (try dsimp only at hSw); go_simp; try (with_reducible rfl))
      try simp only [Act.put, List.setIfInBounds_toArray, List.set_cons_zero, List.set_cons_succ]
      refine wpAnyH_done (by kernel_rfl) ?_ _
      clear hHeld2
      have P2 := Lib.hid (PX.out.call hs4)
      have R2 : Hid (Rd w4 w4.heap.size 1 (some ⟨b', o, none⟩) M (nats (arL p.links x b p.links.length))) := Lib.hid ((RX.out.below hs4 (Nat.le_refl _)).more hs4.size)
      have hdN : hopD (Adj p.links x) a m < 1000 := by omega
      clear hsd hs0 hsn hs4 hbn HC C1 C2 PX RX
      generalize hopD (Adj p.links x) a m = d at *
      by_cases h1 : 0 ≤ d
      · by_cases h2 : bestK p.links x a b k < 0
        · have HN := Lib.hid (show bestK p.links x a b (k + 1) = d + 1 from by rw [HS.out]; unfold Gr.bestStep; rw [if_pos ⟨h1, .inl h2⟩])
          go_wp2_with fail
          go_roundw
          case rel => exact ⟨k + 1, by omega, by go_num, by rw [HN.out], P2.out, R2.out⟩
          case measure => simp [intOf]; omega
        · have h2' : 0 ≤ bestK p.links x a b k := by omega
          by_cases h3 : d + 1 < bestK p.links x a b k
          · have HN := Lib.hid (show bestK p.links x a b (k + 1) = d + 1 from by rw [HS.out]; unfold Gr.bestStep; rw [if_pos ⟨h1, .inr h3⟩])
            clear h2
            go_wp2_with fail
            go_roundw
            case rel => exact ⟨k + 1, by omega, by go_num, by rw [HN.out], P2.out, R2.out⟩
            case measure => simp [intOf]; omega
          · have HN := Lib.hid (show bestK p.links x a b (k + 1) = bestK p.links x a b k from by rw [HS.out]; unfold Gr.bestStep; rw [if_neg (by omega)])
            have h3' : bestK p.links x a b k ≤ d + 1 := by omega
            clear h2 h3
            go_wp2_with fail
            go_roundw
            case rel => exact ⟨k + 1, by omega, by go_num, by rw [HN.out], P2.out, R2.out⟩
            case measure => simp [intOf]; omega
      · have HN := Lib.hid (show bestK p.links x a b (k + 1) = bestK p.links x a b k from by rw [HS.out]; unfold Gr.bestStep; rw [if_neg (by omega)])
        have h1' : d < 0 := by omega
        clear h1
        go_wp2_with fail
        go_roundw
        case rel => exact ⟨k + 1, by omega, by go_num, by rw [HN.out], P2.out, R2.out⟩
        case measure => simp [intOf]; omega
    · have hge : (M : Int) ≤ (k : Int) := by omega
      obtain ⟨g0, g1, g2, g3, g4, g5, g6⟩ := PX.out.all
      by_cases hab : a = b
      · subst hab
        clear hlt
        go_wp2_with fail
        refine (hop_node PX.out.net GD.out ha' ha').mono ?_
        rintro e w4 ⟨rfl, -, hb1⟩
        have B4 := Lib.hid (since_trans PX.out.below hb1)
        rw [(hopD_is (Adj p.links x) a a).zero.2 rfl]
        clear hb1 g0 g1 g2 g3 g4 g5 g6
        go_wp2
        go_ret
        exact ⟨rfl, B4.out⟩
      · have hab' : ((a : Int) == (b : Int)) = false := by rw [beq_eq_false_iff_ne]; omega
        have HB := Lib.hid ((bestK_all GD.out.lksOk hab (by have := HM.out; omega) : Gr.IsHops (Adj p.links x) a b (bestK p.links x a b k)).uniq (hopD_is _ _ _))
        rw [HB.out]
        clear hab hlt hbl
        go_wp2_with fail
        refine (hop_node PX.out.net GD.out ha' hb').mono ?_
        rintro e w4 ⟨rfl, -, hb1⟩
        have B4 := Lib.hid (since_trans PX.out.below hb1)
        clear hb1 g0 g1 g2 g3 g4 g5 g6
        go_wp2
        go_ret
        exact ⟨rfl, B4.out⟩
end Go.Proofs.Ytconeplgbemblaa

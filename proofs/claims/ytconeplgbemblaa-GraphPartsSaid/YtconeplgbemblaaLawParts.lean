/- The walk of backstaylaw05.GraphParts. -/
import Derived.Test.YtconeplgbemblaaLaw5
namespace Go.Proofs.Ytconeplgbemblaa
set_option linter.unusedSimpArgs false
set_option linter.unusedVariables false
open Go.RowKit

theorem below_drew {w wx : World} (h : Below w.heap.size w wx) : Below w.heap.size w wx.drew := h.trans ⟨rfl, rfl, rfl, Nat.le_refl _, fun _ _ => rfl⟩
set_option maxRecDepth 100000 in
/-- Two lists that are the same. -/
theorem refInts_same (l : List Nat) (A A' : Option Addr) (c c' : Nat) (w : World) (h : Rd w w.heap.size 1 A l.length (nats l)) (h' : Rd w w.heap.size 1 A' l.length (nats l)) (hl : l.length ≤ 1000) :
    Calls Try.prog 13 #[.slice A l.length c, .slice A' l.length c'] w fun e w' => e = .returned (.bool true) ∧ Below w.heap.size w w' := by
  have HA := Lib.hid h
  have HB := Lib.hid h'
  clear h h'
  go_enter Try.func13, Try.ntmps13
  go_wp2_with fail
  go_loopw [5] (fun i wr => ∃ k : Nat, k ≤ l.length ∧ i = .int .i64 k ∧ Below w.heap.size w wr) (fun i _ => l.length - (intOf i).toNat)
  case atStart => exact ⟨0, Nat.zero_le _, rfl, Below.refl _ _⟩
  case round =>
    obtain ⟨k, hk, rfl, hb⟩ := hrel
    have HX := Lib.hid hb
    clear hb
    by_cases hlt : k < l.length
    · obtain ⟨x, hx⟩ : ∃ x, l[k]? = some x := ⟨_, List.getElem?_eq_getElem hlt⟩
      obtain ⟨b1, o1, rfl, -, hc1⟩ := (HA.out.below HX.out (Nat.le_refl _)).one (nats_at hx)
      obtain ⟨b2, o2, rfl, -, hc2⟩ := (HB.out.below HX.out (Nat.le_refl _)).one (nats_at hx)
      have hz0 : (0 : Int) ≤ (k : Int) := by omega
      have hz1 : (k : Int) < (l.length : Int) := by omega
      clear hx
      go_wp2_with fail
      go_quiet (fail)
      go_wp2
      go_roundw
      case rel => exact ⟨k + 1, by omega, by go_num, below_drewN HX.out _⟩
      case measure => simp [intOf]; omega
    · go_wp2
      go_ret
      exact ⟨rfl, HX.out⟩
/-- The network and two lists read. -/
structure PT (w wx : World) (b : Nat) (p : Net) (h : Hd) (l m : List Nat) (A A' : Option Addr) : Prop where
  pb : PB w wx b p h
  l : Rd wx wx.heap.size 1 A l.length (nats l)
  m : Rd wx wx.heap.size 1 A' m.length (nats m)
theorem Rd.keepB {w wx : World} {s n : Nat} {A : Option Addr} {xs : List Value} (h : Rd w w.heap.size s A n xs) (hb : Below w.heap.size w wx) : Rd wx wx.heap.size s A n xs := (h.below hb (Nat.le_refl _)).more hb.size
theorem PT.call {w wx wy : World} {b : Nat} {p : Net} {h : Hd} {l m : List Nat} {A A' : Option Addr} (a : PT w wx b p h l m A A') (hb : Below wx.heap.size wx wy) : PT w wy b p h l m A A' :=
  ⟨a.pb.call hb, a.l.keepB hb, a.m.keepB hb⟩
attribute [local go_sem ↓] Go.wp_at_zero Go.wp_at_succ
set_option maxRecDepth 100000 in
set_option maxHeartbeats 8000000 in
theorem graphParts_walk (a0 : Option Addr) (c0 : Nat) (l0 : List Int) (n1 n2 n3 : Int) (w : World) (h0 : InRow w a0 c0 l0) (k1 : In64 n1) (k2 : In64 n2) (k3 : In64 n3) :
    Calls Try.prog 7 #[.slice a0 l0.length c0, .int .i64 n1, .int .i64 n2, .int .i64 n3] w fun e w' => e = .returned (.bool true) ∧ Below w.heap.size w w' := by
  have I1 := Lib.hid k1
  have I2 := Lib.hid k2
  have I3 := Lib.hid k3
  clear k1 k2 k3
  have H0 := Lib.hid h0
  clear h0
  go_enter Try.func7, Try.ntmps7
  go_wp2_with fail
  refine (awake5 _).mono ?_
  rintro e w1 ⟨rfl, hb1⟩
  have J0 := Lib.hid (H0.out.call hb1)
  have B1 := Lib.hid hb1
  clear hb1
  go_wp2_with fail
  refine (net_any _ _ l0 c0 J0.out.len J0.out.le J0.out.rd J0.out.in64).mono ?_
  rintro e w2 ⟨p, h, rfl, hok, hown, hb⟩
  have B2 := Lib.hid (since_trans B1.out hb)
  have OK := Lib.hid hok
  have GD := Lib.hid hok.good
  have P0 : Hid (PB w (w2.alloc (.cells #[.int .i64 p.proto, .int .i64 p.cap, .int .i64 p.k, .slice h.an p.nodes.length h.cn, .slice h.al p.links.length h.cl, .slice h.ad p.dests.length h.cd, .slice h.ac p.checks.length h.cc] 29)) w2.heap.size p h) := Lib.hid (PB.begin B2.out hown.net)
  have hn2 := hok.n.1
  have hn7 := hok.n.2
  clear hb hown hok
  unfold netV netVal
  obtain ⟨g0, g1, g2, g3, g4, g5, g6⟩ := P0.out.all
  go_wp2_with fail
  refine (pick5_any n1 512 _ I1.out (by omega) (by omega)).mono ?_
  rintro e w' ⟨rfl, rfl⟩
  generalize pickV n1 512 = x
  go_wp2_with fail
  refine (pick5_any n2 p.nodes.length _ I2.out (by omega) (by omega)).mono ?_
  rintro e w' ⟨rfl, rfl⟩
  have ha := pickV_in (c := n2) (n := p.nodes.length) (by omega)
  generalize pickV n2 p.nodes.length = a at *
  go_wp2_with fail
  refine (pick5_any n3 p.nodes.length _ I3.out (by omega) (by omega)).mono ?_
  rintro e w' ⟨rfl, rfl⟩
  have hb := pickV_in (c := n3) (n := p.nodes.length) (by omega)
  generalize pickV n3 p.nodes.length = b at *
  obtain ⟨a, rfl⟩ : ∃ k : Nat, a = k := ⟨a.toNat, by omega⟩
  obtain ⟨b, rfl⟩ : ∃ k : Nat, b = k := ⟨b.toNat, by omega⟩
  have ha' : a < p.nodes.length := by omega
  have hb' : b < p.nodes.length := by omega
  have HAI := Lib.hid ha
  have HBI := Lib.hid hb
  clear ha hb
  go_wp2_with fail
  refine (reach_len P0.out.net GD.out HAI.out).mono ?_
  rintro e w3 ⟨A, c, rfl, hown, hb1⟩
  have P1 := Lib.hid (P0.out.call hb1)
  have R1 := Lib.hid hown.rd
  clear hb1 hown g0 g1 g2 g3 g4 g5 g6
  obtain ⟨g0, g1, g2, g3, g4, g5, g6⟩ := P1.out.all
  go_wp2_with fail
  refine (reach_len P1.out.net GD.out HBI.out).mono ?_
  rintro e w4 ⟨A', c', rfl, hown, hb1⟩
  have P2 : Hid (PT w w4 w2.heap.size p h (reachL p.links x p.nodes.length a) (reachL p.links x p.nodes.length b) A A') := Lib.hid ⟨P1.out.call hb1, by have := R1.out.keepB hb1; simpa using this, by have := hown.rd; simpa using this⟩
  have HL := Lib.hid (reachL_is (f := x) ha' GD.out.lksOk)
  have HMM := Lib.hid (reachL_is (f := x) hb' GD.out.lksOk)
  clear hb1 hown g0 g1 g2 g3 g4 g5 g6
  simp only [Int.toNat_natCast]
  generalize reachL p.links x p.nodes.length a = l at *
  generalize reachL p.links x p.nodes.length b = m at *
  have hl12 : l.length ≤ 1000 := by
    have h1 := HL.out.filter
    have h2 := List.length_filter_le (fun v => decide (v ∈ l)) (List.range p.nodes.length)
    rw [← h1, List.length_range] at h2
    omega
  have hm12 : m.length ≤ 1000 := by
    have h1 := HMM.out.filter
    have h2 := List.length_filter_le (fun v => decide (v ∈ m)) (List.range p.nodes.length)
    rw [← h1, List.length_range] at h2
    omega
  have HJ : Hid (∀ v, v ∈ l → v ∈ m → l = m) := Lib.hid (fun v h1 h2 => HL.out.joins (fun u v h => Adj.symm u v h) HMM.out h1 h2)
  clear R1 P1 P0
  go_wp2_with fail
  go_loopw [16, 17] (fun sh si wx => ∃ k : Nat, k ≤ l.length ∧ si = .int .i64 k ∧ sh = .bool (decide (b ∈ l.take k)) ∧ PT w wx w2.heap.size p h l m A A') (fun _ si _ => l.length - (intOf si).toNat)
  case atStart => exact ⟨0, Nat.zero_le _, rfl, by simp, P2.out⟩
  case round =>
    clear P2
    obtain ⟨k, hk, rfl, rfl, hP⟩ := hrel
    have PX := Lib.hid hP
    clear hP
    by_cases hlt : k < l.length
    · obtain ⟨v, hv⟩ : ∃ v, l[k]? = some v := ⟨_, List.getElem?_eq_getElem hlt⟩
      obtain ⟨b', o, rfl, hbb, hcc⟩ := PX.out.l.one (nats_at hv)
      have HCC := Lib.hid (show ∀ wy, Below wr.heap.size wr wy → wy.cell? ⟨b', o + k, none⟩ = some (.int .i64 (v : Int)) from fun wy hb => (hb.cell (p := ⟨b', o + k, none⟩) hbb).trans hcc)
      have HV := Lib.hid hv
      have HT := Lib.hid (show decide (b ∈ l.take (k + 1)) = (decide (b ∈ l.take k) || ((v : Int) == (b : Int))) from by
        rw [Bool.eq_iff_iff, List.take_add_one, hv]
        simp only [Option.toList_some, List.mem_append, List.mem_singleton, decide_eq_true_eq, Bool.or_eq_true, beq_iff_eq]
        constructor
        · rintro (h | h)
          · exact .inl h
          · exact .inr (by omega)
        · rintro (h | h)
          · exact .inl h
          · exact .inr (by omega))
      have hltz : (k : Int) < (l.length : Int) := by omega
      have hkz : (0 : Int) ≤ (k : Int) := by omega
      clear hv
      go_upto_region 12 with fail
      go_cut [16] (fun s wx => s = .bool (decide (b ∈ l.take (k + 1))) ∧ wx = wr)
      case first =>
        cases hd : decide (b ∈ l.take k) with
        | true =>
          go_wp2_with fail
          go_meet
          case rel => exact ⟨by rw [HT.out, hd]; rfl, rfl⟩
        | false =>
          go_wp2_with fail
          go_meet
          case rel => exact ⟨by rw [HT.out, hd]; rfl, rfl⟩
      case rest =>
      obtain ⟨rfl, rfl⟩ := hcut
      generalize hgd : decide (b ∈ l.take (k + 1)) = q
      have HQ := Lib.hid hgd
      clear hgd HT hcc
      go_upto_region 13 with fail
      go_cut [70] (fun s wx => s = .bool false ∧ Below wc.heap.size wc wx)
      case first =>
        rcases k with _ | k
        · have hq0 : decide ((0 : Int) < 0) = false := by decide
          go_wp2_with fail
          refine wp_region_held_drew (S := (fun wx => wx.cell? ⟨b', o + 0, none⟩ = some (.int .i64 (v : Int)))) (by kernel_rfl) (HCC.out _ (below_drew (Below.refl _ _))) (fun hHeld0 => ?_)
          refine take_list (i := 0) (v := ?_) rfl (by kernel_rfl) (by kernel_rfl) (by kernel_rfl) (fun _ _ _ h => h) (Or.inl ⟨by rfl, ?_⟩) (by assumption) ?_
          rotate_left
          · (intro w hSw; (try dsimp only at hSw); go_simp; try (with_reducible rfl))
          try simp only [Act.put, List.setIfInBounds_toArray, List.set_cons_zero, List.set_cons_succ]
          refine take_list (i := 1) (v := ?_) rfl (by kernel_rfl) (by kernel_rfl) (by kernel_rfl) (fun _ _ _ h => h) (Or.inl ⟨by rfl, ?_⟩) (by assumption) ?_
          rotate_left
          · (intro w hSw; (try dsimp only at hSw); go_simp; try (with_reducible rfl))
          try simp only [Act.put, List.setIfInBounds_toArray, List.set_cons_zero, List.set_cons_succ]
          refine take_list (i := 2) (v := ?_) rfl (by kernel_rfl) (by kernel_rfl) (by kernel_rfl) (fun _ _ _ h => h) (Or.inl ⟨by rfl, ?_⟩) (by assumption) ?_
          rotate_left
          · (intro w hSw; (try dsimp only at hSw); go_simp; try (with_reducible rfl))
          try simp only [Act.put, List.setIfInBounds_toArray, List.set_cons_zero, List.set_cons_succ]
          refine take_list (i := 3) (v := undef) rfl (by kernel_rfl) (by kernel_rfl) (by kernel_rfl) (fun _ _ _ h => h) (Or.inr ⟨by rfl, rfl⟩) (by assumption) ?_
          try simp only [Act.put, List.setIfInBounds_toArray, List.set_cons_zero, List.set_cons_succ]
          refine take_list (i := 4) (v := undef) rfl (by kernel_rfl) (by kernel_rfl) (by kernel_rfl) (fun _ _ _ h => h) (Or.inr ⟨by rfl, rfl⟩) (by assumption) ?_
          try simp only [Act.put, List.setIfInBounds_toArray, List.set_cons_zero, List.set_cons_succ]
          refine take_list (i := 5) (v := undef) rfl (by kernel_rfl) (by kernel_rfl) (by kernel_rfl) (fun _ _ _ h => h) (Or.inr ⟨by rfl, rfl⟩) (by assumption) ?_
          try simp only [Act.put, List.setIfInBounds_toArray, List.set_cons_zero, List.set_cons_succ]
          refine take_list (i := 6) (v := undef) rfl (by kernel_rfl) (by kernel_rfl) (by kernel_rfl) (fun _ _ _ h => h) (Or.inr ⟨by rfl, rfl⟩) (by assumption) ?_
          try simp only [Act.put, List.setIfInBounds_toArray, List.set_cons_zero, List.set_cons_succ]
          refine take_list (i := 7) (v := undef) rfl (by kernel_rfl) (by kernel_rfl) (by kernel_rfl) (fun _ _ _ h => h) (Or.inr ⟨by rfl, rfl⟩) (by assumption) ?_
          try simp only [Act.put, List.setIfInBounds_toArray, List.set_cons_zero, List.set_cons_succ]
          refine take_list (i := 8) (v := undef) rfl (by kernel_rfl) (by kernel_rfl) (by kernel_rfl) (fun _ _ _ h => h) (Or.inr ⟨by rfl, rfl⟩) (by assumption) ?_
          try simp only [Act.put, List.setIfInBounds_toArray, List.set_cons_zero, List.set_cons_succ]
          refine take_list (i := 9) (v := undef) rfl (by kernel_rfl) (by kernel_rfl) (by kernel_rfl) (fun _ _ _ h => h) (Or.inr ⟨by rfl, rfl⟩) (by assumption) ?_
          try simp only [Act.put, List.setIfInBounds_toArray, List.set_cons_zero, List.set_cons_succ]
          refine take_list (i := 10) (v := undef) rfl (by kernel_rfl) (by kernel_rfl) (by kernel_rfl) (fun _ _ _ h => h) (Or.inr ⟨by rfl, rfl⟩) (by assumption) ?_
          try simp only [Act.put, List.setIfInBounds_toArray, List.set_cons_zero, List.set_cons_succ]
          refine take_list (i := 11) (v := undef) rfl (by kernel_rfl) (by kernel_rfl) (by kernel_rfl) (fun _ _ _ h => h) (Or.inr ⟨by rfl, rfl⟩) (by assumption) ?_
          try simp only [Act.put, List.setIfInBounds_toArray, List.set_cons_zero, List.set_cons_succ]
          refine take_list (i := 12) (v := undef) rfl (by kernel_rfl) (by kernel_rfl) (by kernel_rfl) (fun _ _ _ h => h) (Or.inr ⟨by rfl, rfl⟩) (by assumption) ?_
          try simp only [Act.put, List.setIfInBounds_toArray, List.set_cons_zero, List.set_cons_succ]
          refine take_list (i := 13) (v := ?_) rfl (by kernel_rfl) (by kernel_rfl) (by kernel_rfl) (fun _ _ _ h => h) (Or.inl ⟨by rfl, ?_⟩) (by assumption) ?_
          rotate_left
          · (intro w hSw; (try dsimp only at hSw); go_simp; try (with_reducible rfl))
          try simp only [Act.put, List.setIfInBounds_toArray, List.set_cons_zero, List.set_cons_succ]
          refine wpAnyH_done (by kernel_rfl) ?_ _
          clear hHeld0
          go_wp2
          go_meet
          case rel => exact ⟨rfl, below_drew (Below.refl _ _)⟩
        · obtain ⟨u, hu⟩ : ∃ u, l[k]? = some u := ⟨_, List.getElem?_eq_getElem (by omega)⟩
          have huv : u < v := by
            have h1 := HL.out.1
            have h2 := HV.out
            rw [List.pairwise_iff_getElem] at h1
            have := h1 k (k + 1) (by omega) hlt (by omega)
            rw [List.getElem?_eq_getElem (by omega)] at hu
            rw [List.getElem?_eq_getElem hlt] at h2
            injection hu with hu
            injection h2 with h2
            omega
          obtain ⟨b2, o2, e2, hb2, hc2⟩ := PX.out.l.one (nats_at hu)
          injection e2 with e2
          injection e2 with e3 e4
          subst e3 e4
          have HC2 := Lib.hid (show ∀ wy, Below wc.heap.size wc wy → wy.cell? ⟨b', o + k, none⟩ = some (.int .i64 (u : Int)) from fun wy hb => (hb.cell (p := ⟨b', o + k, none⟩) hb2).trans hc2)
          have hq0 : decide ((v : Int) ≤ (u : Int)) = false := by simp; omega
          have hk1 : (0 : Int) ≤ (k : Int) := by omega
          have hk2 : (k : Int) < (l.length : Int) := by omega
          have hk3 : (k : Int) + 1 < (l.length : Int) := by omega
          have hk4 : (0 : Int) < (k : Int) + 1 := by omega
          have hk6 : (0 : Int) ≤ (k : Int) + 1 := by omega
          have hk5 : IntKind.i64.wrap (k : Int) = (k : Int) := IntWalk.i64_in _ (by omega)
          clear hu hc2
          go_wp2_with fail
          refine wp_region_held_drew (S := (fun wx => wx.cell? ⟨b', o + k, none⟩ = some (.int .i64 (u : Int)) ∧ wx.cell? ⟨b', o + (k + 1), none⟩ = some (.int .i64 (v : Int)))) (by kernel_rfl) (⟨HC2.out _ (below_drew (Below.refl _ _)), HCC.out _ (below_drew (Below.refl _ _))⟩) (fun hHeld0 => ?_)
          refine take_list (i := 0) (v := ?_) rfl (by kernel_rfl) (by kernel_rfl) (by kernel_rfl) (fun _ _ _ h => h) (Or.inl ⟨by rfl, ?_⟩) (by assumption) ?_
          rotate_left
          · (intro w hSw; (try dsimp only at hSw); go_simp; try (with_reducible rfl))
          try simp only [Act.put, List.setIfInBounds_toArray, List.set_cons_zero, List.set_cons_succ]
          refine take_list (i := 1) (v := ?_) rfl (by kernel_rfl) (by kernel_rfl) (by kernel_rfl) (fun _ _ _ h => h) (Or.inl ⟨by rfl, ?_⟩) (by assumption) ?_
          rotate_left
          · (intro w hSw; (try dsimp only at hSw); go_simp; try (with_reducible rfl))
          try simp only [Act.put, List.setIfInBounds_toArray, List.set_cons_zero, List.set_cons_succ]
          refine take_list (i := 2) (v := ?_) rfl (by kernel_rfl) (by kernel_rfl) (by kernel_rfl) (fun _ _ _ h => h) (Or.inl ⟨by rfl, ?_⟩) (by assumption) ?_
          rotate_left
          · (intro w hSw; (try dsimp only at hSw); go_simp; try (with_reducible rfl))
          try simp only [Act.put, List.setIfInBounds_toArray, List.set_cons_zero, List.set_cons_succ]
          refine take_list (i := 3) (v := ?_) rfl (by kernel_rfl) (by kernel_rfl) (by kernel_rfl) (fun _ _ _ h => h) (Or.inl ⟨by rfl, ?_⟩) (by assumption) ?_
          rotate_left
          · (intro w hSw; (try dsimp only at hSw); go_simp; try (with_reducible rfl))
          try simp only [Act.put, List.setIfInBounds_toArray, List.set_cons_zero, List.set_cons_succ]
          refine take_list (i := 4) (v := ?_) rfl (by kernel_rfl) (by kernel_rfl) (by kernel_rfl) (fun _ _ _ h => h) (Or.inl ⟨by rfl, ?_⟩) (by assumption) ?_
          rotate_left
          · (intro w hSw; (try dsimp only at hSw); go_simp; try (with_reducible rfl))
          try simp only [Act.put, List.setIfInBounds_toArray, List.set_cons_zero, List.set_cons_succ]
          refine take_list (i := 5) (v := ?_) rfl (by kernel_rfl) (by kernel_rfl) (by kernel_rfl) (fun _ _ _ h => h) (Or.inl ⟨by rfl, ?_⟩) (by assumption) ?_
          rotate_left
          · (intro w hSw; (try dsimp only at hSw); go_simp; try (with_reducible rfl))
          try simp only [Act.put, List.setIfInBounds_toArray, List.set_cons_zero, List.set_cons_succ]
          refine take_list (i := 6) (v := ?_) rfl (by kernel_rfl) (by kernel_rfl) (by kernel_rfl) (fun _ _ _ h => h) (Or.inl ⟨by rfl, ?_⟩) (by assumption) ?_
          rotate_left
          · (intro w hSw; (try dsimp only at hSw); go_simp; try (with_reducible rfl))
          try simp only [Act.put, List.setIfInBounds_toArray, List.set_cons_zero, List.set_cons_succ]
          refine take_list (i := 7) (v := ?_) rfl (by kernel_rfl) (by kernel_rfl) (by kernel_rfl) (fun _ _ _ h => h) (Or.inl ⟨by rfl, ?_⟩) (by assumption) ?_
          rotate_left
          · (intro w hSw; (try dsimp only at hSw); go_simp; try (with_reducible rfl))
          try simp only [Act.put, List.setIfInBounds_toArray, List.set_cons_zero, List.set_cons_succ]
          refine take_list (i := 8) (v := ?_) rfl (by kernel_rfl) (by kernel_rfl) (by kernel_rfl) (fun _ _ _ h => h) (Or.inl ⟨by rfl, ?_⟩) (by assumption) ?_
          rotate_left
          · (intro w hSw; (try dsimp only at hSw); go_simp; try (with_reducible rfl))
          try simp only [Act.put, List.setIfInBounds_toArray, List.set_cons_zero, List.set_cons_succ]
          refine take_list (i := 9) (v := ?_) rfl (by kernel_rfl) (by kernel_rfl) (by kernel_rfl) (fun _ _ _ h => h) (Or.inl ⟨by rfl, ?_⟩) (by assumption) ?_
          rotate_left
          · (intro w hSw; (try dsimp only at hSw); go_simp; try (with_reducible rfl))
          try simp only [Act.put, List.setIfInBounds_toArray, List.set_cons_zero, List.set_cons_succ]
          refine take_list (i := 10) (v := ?_) rfl (by kernel_rfl) (by kernel_rfl) (by kernel_rfl) (fun _ _ _ h => h) (Or.inl ⟨by rfl, ?_⟩) (by assumption) ?_
          rotate_left
          · (intro w hSw; (try dsimp only at hSw); go_simp; try (with_reducible rfl))
          try simp only [Act.put, List.setIfInBounds_toArray, List.set_cons_zero, List.set_cons_succ]
          refine take_list (i := 11) (v := ?_) rfl (by kernel_rfl) (by kernel_rfl) (by kernel_rfl) (fun _ _ _ h => h) (Or.inl ⟨by rfl, ?_⟩) (by assumption) ?_
          rotate_left
          · (intro w hSw; (try dsimp only at hSw); go_simp; try (with_reducible rfl))
          try simp only [Act.put, List.setIfInBounds_toArray, List.set_cons_zero, List.set_cons_succ]
          refine take_list (i := 12) (v := ?_) rfl (by kernel_rfl) (by kernel_rfl) (by kernel_rfl) (fun _ _ _ h => h) (Or.inl ⟨by rfl, ?_⟩) (by assumption) ?_
          rotate_left
          · (intro w hSw; (try dsimp only at hSw); go_simp; try (with_reducible rfl))
          try simp only [Act.put, List.setIfInBounds_toArray, List.set_cons_zero, List.set_cons_succ]
          refine take_list (i := 13) (v := ?_) rfl (by kernel_rfl) (by kernel_rfl) (by kernel_rfl) (fun _ _ _ h => h) (Or.inl ⟨by rfl, ?_⟩) (by assumption) ?_
          rotate_left
          · (intro w hSw; (try dsimp only at hSw); go_simp; try (with_reducible rfl))
          try simp only [Act.put, List.setIfInBounds_toArray, List.set_cons_zero, List.set_cons_succ]
          refine wpAnyH_done (by kernel_rfl) ?_ _
          clear hHeld0
          go_wp2
          go_meet
          case rel => exact ⟨by rw [show decide (v ≤ u) = false from by simp; omega], below_drew (Below.refl _ _)⟩
      case rest =>
      obtain ⟨rfl, hbq⟩ := hcut
      have PY := Lib.hid (PX.out.call hbq)
      clear hbq PX HCC hbb
      go_wp2_with fail
      go_loopw [18] (fun sj wx => ∃ j : Nat, j ≤ m.length ∧ sj = .int .i64 j ∧ PT w wx w2.heap.size p h l m (some ⟨b', o, none⟩) A') (fun sj _ => m.length - (intOf sj).toNat)
      case atStart => exact ⟨0, Nat.zero_le _, rfl, PY.out⟩
      case round =>
        clear PY
        obtain ⟨j, hj, rfl, hP⟩ := hrel
        have PZ := Lib.hid hP
        clear hP
        by_cases hjt : j < m.length
        · obtain ⟨u, hu⟩ : ∃ u, m[j]? = some u := ⟨_, List.getElem?_eq_getElem hjt⟩
          obtain ⟨b1, o1, e1, hb1, hc1⟩ := PZ.out.l.one (nats_at HV.out)
          injection e1 with e1
          injection e1 with e3 e4
          subst e3 e4
          obtain ⟨b2, o2, rfl, hb2, hc2⟩ := PZ.out.m.one (nats_at hu)
          have HU := Lib.hid hu
          have hjz : (j : Int) < (m.length : Int) := by omega
          have hj0 : (0 : Int) ≤ (j : Int) := by omega
          have HC : Hid (∀ wy, Below wr.heap.size wr wy → wy.cell? ⟨b', o + k, none⟩ = some (.int .i64 (v : Int)) ∧ wy.cell? ⟨b2, o2 + j, none⟩ = some (.int .i64 (u : Int))) := Lib.hid (fun wy hb => ⟨(hb.cell (p := ⟨b', o + k, none⟩) hb1).trans hc1, (hb.cell (p := ⟨b2, o2 + j, none⟩) hb2).trans hc2⟩)
          have hs0 : Below wr.heap.size wr wr := Below.refl _ _
          have hsd : Below wr.heap.size wr wr.drew := (Below.refl _ _).drew
          clear hu hc1 hc2
          by_cases huv : u = v
          · have hlm : l = m := HJ.out u (by rw [huv]; exact List.mem_of_getElem? HV.out) (List.mem_of_getElem? HU.out)
            have CI : Hid (∀ wy, Below wr.heap.size wr wy → Calls Try.prog 13 #[.slice (some ⟨b', o, none⟩) l.length c, .slice (some ⟨b2, o2, none⟩) m.length c'] wy fun e w' => e = .returned (.bool true) ∧ Below wy.heap.size wy w') := Lib.hid (fun wy hb => by
              have h1 := (PZ.out.call hb).l
              have h2 := (PZ.out.call hb).m
              rw [← hlm] at h2 ⊢
              exact refInts_same l _ _ _ _ wy h1 h2 hl12)
            have hq : ((v : Int) == (u : Int)) = true := by simp [huv]
            clear hlm huv
            go_wp2_with fail
            refine wp_region_held_drew (S := (fun wx => wx.cell? ⟨b', o + k, none⟩ = some (.int .i64 (v : Int)) ∧ wx.cell? ⟨b2, o2 + j, none⟩ = some (.int .i64 (u : Int)))) (by kernel_rfl) (HC.out _ hsd) (fun hHeld0 => ?_)
            refine take_list (i := 0) (v := ?_) rfl (by kernel_rfl) (by kernel_rfl) (by kernel_rfl) (fun _ _ _ h => h) (Or.inl ⟨by rfl, ?_⟩) (by assumption) ?_
            rotate_left
            · (intro w hSw; (try dsimp only at hSw); go_simp; try (with_reducible rfl))
            try simp only [Act.put, List.setIfInBounds_toArray, List.set_cons_zero, List.set_cons_succ]
            refine take_list (i := 1) (v := ?_) rfl (by kernel_rfl) (by kernel_rfl) (by kernel_rfl) (fun _ _ _ h => h) (Or.inl ⟨by rfl, ?_⟩) (by assumption) ?_
            rotate_left
            · (intro w hSw; (try dsimp only at hSw); go_simp; try (with_reducible rfl))
            try simp only [Act.put, List.setIfInBounds_toArray, List.set_cons_zero, List.set_cons_succ]
            refine take_list (i := 2) (v := ?_) rfl (by kernel_rfl) (by kernel_rfl) (by kernel_rfl) (fun _ _ _ h => h) (Or.inl ⟨by rfl, ?_⟩) (by assumption) ?_
            rotate_left
            · (intro w hSw; (try dsimp only at hSw); go_simp; try (with_reducible rfl))
            try simp only [Act.put, List.setIfInBounds_toArray, List.set_cons_zero, List.set_cons_succ]
            refine take_list (i := 3) (v := ?_) rfl (by kernel_rfl) (by kernel_rfl) (by kernel_rfl) (fun _ _ _ h => h) (Or.inl ⟨by rfl, ?_⟩) (by assumption) ?_
            rotate_left
            · (intro w hSw; (try dsimp only at hSw); go_simp; try (with_reducible rfl))
            try simp only [Act.put, List.setIfInBounds_toArray, List.set_cons_zero, List.set_cons_succ]
            refine take_list (i := 4) (v := ?_) rfl (by kernel_rfl) (by kernel_rfl) (by kernel_rfl) (fun _ _ _ h => h) (Or.inl ⟨by rfl, ?_⟩) (by assumption) ?_
            rotate_left
            · (intro w hSw; (try dsimp only at hSw); go_simp; try (with_reducible rfl))
            try simp only [Act.put, List.setIfInBounds_toArray, List.set_cons_zero, List.set_cons_succ]
            refine take_list (i := 5) (v := ?_) rfl (by kernel_rfl) (by kernel_rfl) (by kernel_rfl) (fun _ _ _ h => h) (Or.inl ⟨by rfl, ?_⟩) (by assumption) ?_
            rotate_left
            · (intro w hSw; (try dsimp only at hSw); go_simp; try (with_reducible rfl))
            try simp only [Act.put, List.setIfInBounds_toArray, List.set_cons_zero, List.set_cons_succ]
            refine take_list (i := 6) (v := ?_) rfl (by kernel_rfl) (by kernel_rfl) (by kernel_rfl) (fun _ _ _ h => h) (Or.inl ⟨by rfl, ?_⟩) (by assumption) ?_
            rotate_left
            · (intro w hSw; (try dsimp only at hSw); go_simp; try (with_reducible rfl))
            try simp only [Act.put, List.setIfInBounds_toArray, List.set_cons_zero, List.set_cons_succ]
            refine take_list (i := 7) (v := ?_) rfl (by kernel_rfl) (by kernel_rfl) (by kernel_rfl) (fun _ _ _ h => h) (Or.inl ⟨by rfl, ?_⟩) (by assumption) ?_
            rotate_left
            · (intro w hSw; (try dsimp only at hSw); go_simp; try (with_reducible rfl))
            try simp only [Act.put, List.setIfInBounds_toArray, List.set_cons_zero, List.set_cons_succ]
            refine take_list (i := 8) (v := ?_) rfl (by kernel_rfl) (by kernel_rfl) (by kernel_rfl) (fun _ _ _ h => h) (Or.inl ⟨by rfl, ?_⟩) (by assumption) ?_
            rotate_left
            · (intro w hSw; (try dsimp only at hSw); go_simp; try (with_reducible rfl))
            try simp only [Act.put, List.setIfInBounds_toArray, List.set_cons_zero, List.set_cons_succ]
            refine take_list (i := 9) (v := ?_) rfl (by kernel_rfl) (by kernel_rfl) (by kernel_rfl) (fun _ _ _ h => h) (Or.inl ⟨by rfl, ?_⟩) (by assumption) ?_
            rotate_left
            · (intro w hSw; (try dsimp only at hSw); go_simp; try (with_reducible rfl))
            try simp only [Act.put, List.setIfInBounds_toArray, List.set_cons_zero, List.set_cons_succ]
            refine take_list (i := 10) (v := ?_) rfl (by kernel_rfl) (by kernel_rfl) (by kernel_rfl) (fun _ _ _ h => h) (Or.inl ⟨by rfl, ?_⟩) (by assumption) ?_
            rotate_left
            · (intro w hSw; (try dsimp only at hSw); go_simp; try (with_reducible rfl))
            try simp only [Act.put, List.setIfInBounds_toArray, List.set_cons_zero, List.set_cons_succ]
            refine take_list (i := 11) (v := ?_) rfl (by kernel_rfl) (by kernel_rfl) (by kernel_rfl) (fun _ _ _ h => h) (Or.inl ⟨by rfl, ?_⟩) (by assumption) ?_
            rotate_left
            · (intro w hSw; (try dsimp only at hSw); go_simp; try (with_reducible rfl))
            try simp only [Act.put, List.setIfInBounds_toArray, List.set_cons_zero, List.set_cons_succ]
            refine wpAnyH_ready (rs := [12]) (by kernel_rfl) (by simp) ?_
            refine cons_list rfl (fun K hK => ?_) AllReadyH.nil
            go_simp
            (go_at_call 13; refine (CI.out _ (by assumption)).mono ?_; rintro e wn ⟨rfl, hbn⟩; (have hsn := since_trans hsd hbn))
            refine hK.out _ _ (HC.out _ (by assumption)) (fun hHeld1 => ?_)
            clear hK K hHeld0
            try simp only [Act.put, List.setIfInBounds_toArray, List.set_cons_zero, List.set_cons_succ]
            refine take_list (i := 13) (v := ?_) rfl (by kernel_rfl) (by kernel_rfl) (by kernel_rfl) (fun _ _ _ h => h) (Or.inl ⟨by rfl, ?_⟩) (by assumption) ?_
            rotate_left
            · (intro w hSw; (try dsimp only at hSw); go_simp; try (with_reducible rfl))
            try simp only [Act.put, List.setIfInBounds_toArray, List.set_cons_zero, List.set_cons_succ]
            refine take_list (i := 14) (v := ?_) rfl (by kernel_rfl) (by kernel_rfl) (by kernel_rfl) (fun _ _ _ h => h) (Or.inl ⟨by rfl, ?_⟩) (by assumption) ?_
            rotate_left
            · (intro w hSw; (try dsimp only at hSw); go_simp; try (with_reducible rfl))
            try simp only [Act.put, List.setIfInBounds_toArray, List.set_cons_zero, List.set_cons_succ]
            refine wpAnyH_done (by kernel_rfl) ?_ _
            clear hHeld1
            have PN := Lib.hid (PZ.out.call hsn)
            clear hsn hbn hsd hs0 CI HC PZ
            go_wp2_with fail
            go_roundw
            case rel => exact ⟨j + 1, by omega, by go_num, PN.out⟩
            case measure => simp [intOf]; omega
          · have hq : ((v : Int) == (u : Int)) = false := by rw [beq_eq_false_iff_ne]; omega
            clear huv
            go_wp2_with fail
            refine wp_region_held_drew (S := (fun wx => wx.cell? ⟨b', o + k, none⟩ = some (.int .i64 (v : Int)) ∧ wx.cell? ⟨b2, o2 + j, none⟩ = some (.int .i64 (u : Int)))) (by kernel_rfl) (HC.out _ hsd) (fun hHeld0 => ?_)
            refine take_list (i := 0) (v := ?_) rfl (by kernel_rfl) (by kernel_rfl) (by kernel_rfl) (fun _ _ _ h => h) (Or.inl ⟨by rfl, ?_⟩) (by assumption) ?_
            rotate_left
            · (intro w hSw; (try dsimp only at hSw); go_simp; try (with_reducible rfl))
            try simp only [Act.put, List.setIfInBounds_toArray, List.set_cons_zero, List.set_cons_succ]
            refine take_list (i := 1) (v := ?_) rfl (by kernel_rfl) (by kernel_rfl) (by kernel_rfl) (fun _ _ _ h => h) (Or.inl ⟨by rfl, ?_⟩) (by assumption) ?_
            rotate_left
            · (intro w hSw; (try dsimp only at hSw); go_simp; try (with_reducible rfl))
            try simp only [Act.put, List.setIfInBounds_toArray, List.set_cons_zero, List.set_cons_succ]
            refine take_list (i := 2) (v := ?_) rfl (by kernel_rfl) (by kernel_rfl) (by kernel_rfl) (fun _ _ _ h => h) (Or.inl ⟨by rfl, ?_⟩) (by assumption) ?_
            rotate_left
            · (intro w hSw; (try dsimp only at hSw); go_simp; try (with_reducible rfl))
            try simp only [Act.put, List.setIfInBounds_toArray, List.set_cons_zero, List.set_cons_succ]
            refine take_list (i := 3) (v := ?_) rfl (by kernel_rfl) (by kernel_rfl) (by kernel_rfl) (fun _ _ _ h => h) (Or.inl ⟨by rfl, ?_⟩) (by assumption) ?_
            rotate_left
            · (intro w hSw; (try dsimp only at hSw); go_simp; try (with_reducible rfl))
            try simp only [Act.put, List.setIfInBounds_toArray, List.set_cons_zero, List.set_cons_succ]
            refine take_list (i := 4) (v := ?_) rfl (by kernel_rfl) (by kernel_rfl) (by kernel_rfl) (fun _ _ _ h => h) (Or.inl ⟨by rfl, ?_⟩) (by assumption) ?_
            rotate_left
            · (intro w hSw; (try dsimp only at hSw); go_simp; try (with_reducible rfl))
            try simp only [Act.put, List.setIfInBounds_toArray, List.set_cons_zero, List.set_cons_succ]
            refine take_list (i := 5) (v := ?_) rfl (by kernel_rfl) (by kernel_rfl) (by kernel_rfl) (fun _ _ _ h => h) (Or.inl ⟨by rfl, ?_⟩) (by assumption) ?_
            rotate_left
            · (intro w hSw; (try dsimp only at hSw); go_simp; try (with_reducible rfl))
            try simp only [Act.put, List.setIfInBounds_toArray, List.set_cons_zero, List.set_cons_succ]
            refine take_list (i := 6) (v := ?_) rfl (by kernel_rfl) (by kernel_rfl) (by kernel_rfl) (fun _ _ _ h => h) (Or.inl ⟨by rfl, ?_⟩) (by assumption) ?_
            rotate_left
            · (intro w hSw; (try dsimp only at hSw); go_simp; try (with_reducible rfl))
            try simp only [Act.put, List.setIfInBounds_toArray, List.set_cons_zero, List.set_cons_succ]
            refine take_list (i := 7) (v := ?_) rfl (by kernel_rfl) (by kernel_rfl) (by kernel_rfl) (fun _ _ _ h => h) (Or.inl ⟨by rfl, ?_⟩) (by assumption) ?_
            rotate_left
            · (intro w hSw; (try dsimp only at hSw); go_simp; try (with_reducible rfl))
            try simp only [Act.put, List.setIfInBounds_toArray, List.set_cons_zero, List.set_cons_succ]
            refine take_list (i := 8) (v := ?_) rfl (by kernel_rfl) (by kernel_rfl) (by kernel_rfl) (fun _ _ _ h => h) (Or.inl ⟨by rfl, ?_⟩) (by assumption) ?_
            rotate_left
            · (intro w hSw; (try dsimp only at hSw); go_simp; try (with_reducible rfl))
            try simp only [Act.put, List.setIfInBounds_toArray, List.set_cons_zero, List.set_cons_succ]
            refine take_list (i := 9) (v := ?_) rfl (by kernel_rfl) (by kernel_rfl) (by kernel_rfl) (fun _ _ _ h => h) (Or.inl ⟨by rfl, ?_⟩) (by assumption) ?_
            rotate_left
            · (intro w hSw; (try dsimp only at hSw); go_simp; try (with_reducible rfl))
            try simp only [Act.put, List.setIfInBounds_toArray, List.set_cons_zero, List.set_cons_succ]
            refine take_list (i := 10) (v := undef) rfl (by kernel_rfl) (by kernel_rfl) (by kernel_rfl) (fun _ _ _ h => h) (Or.inr ⟨by rfl, rfl⟩) (by assumption) ?_
            try simp only [Act.put, List.setIfInBounds_toArray, List.set_cons_zero, List.set_cons_succ]
            refine take_list (i := 11) (v := undef) rfl (by kernel_rfl) (by kernel_rfl) (by kernel_rfl) (fun _ _ _ h => h) (Or.inr ⟨by rfl, rfl⟩) (by assumption) ?_
            try simp only [Act.put, List.setIfInBounds_toArray, List.set_cons_zero, List.set_cons_succ]
            refine take_list (i := 12) (v := undef) rfl (by kernel_rfl) (by kernel_rfl) (by kernel_rfl) (fun _ _ _ h => h) (Or.inr ⟨by rfl, rfl⟩) (by assumption) ?_
            try simp only [Act.put, List.setIfInBounds_toArray, List.set_cons_zero, List.set_cons_succ]
            refine take_list (i := 13) (v := undef) rfl (by kernel_rfl) (by kernel_rfl) (by kernel_rfl) (fun _ _ _ h => h) (Or.inr ⟨by rfl, rfl⟩) (by assumption) ?_
            try simp only [Act.put, List.setIfInBounds_toArray, List.set_cons_zero, List.set_cons_succ]
            refine take_list (i := 14) (v := ?_) rfl (by kernel_rfl) (by kernel_rfl) (by kernel_rfl) (fun _ _ _ h => h) (Or.inl ⟨by rfl, ?_⟩) (by assumption) ?_
            rotate_left
            · (intro w hSw; (try dsimp only at hSw); go_simp; try (with_reducible rfl))
            try simp only [Act.put, List.setIfInBounds_toArray, List.set_cons_zero, List.set_cons_succ]
            refine wpAnyH_done (by kernel_rfl) ?_ _
            clear hHeld0
            have PN := Lib.hid (PZ.out.call hsd)
            clear hsd hs0 HC PZ
            go_wp2_with fail
            go_roundw
            case rel => exact ⟨j + 1, by omega, by go_num, PN.out⟩
            case measure => simp [intOf]; omega
        · have hge : (m.length : Int) ≤ (j : Int) := by omega
          clear hjt
          go_wp2_with fail
          go_roundw
          case rel => exact ⟨k + 1, by omega, by go_num, by rw [HQ.out], PZ.out⟩
          case measure => simp [intOf]; omega
    · have hge : (l.length : Int) ≤ (k : Int) := by omega
      have HT := Lib.hid (show l.take k = l from List.take_of_length_le (by omega))
      rw [HT.out]
      obtain ⟨g0, g1, g2, g3, g4, g5, g6⟩ := PX.out.pb.all
      have h1l : (1 : Int) ≤ (l.length : Int) := by have := HL.out.len; omega
      clear hlt
      go_wp2_with fail
      refine (hops_in PX.out.pb.net GD.out HAI.out HBI.out).mono ?_
      rintro e w5 ⟨d, rfl, hd, hb1⟩
      have B5 := Lib.hid (since_trans PX.out.pb.below hb1)
      have hmem : b ∈ l ↔ 0 ≤ d := by
        have h1 := hd.1.joined
        have h2 := HL.out.2.1 b
        simp only [Int.toNat_natCast] at h1 h2
        rw [h1, h2]
      clear hb1 hd g0 g1 g2 g3 g4 g5 g6
      by_cases hbl : b ∈ l
      · have h0 : 0 ≤ d := hmem.1 hbl
        have hq : decide (b ∈ l) = true := by simp [hbl]
        rw [hq]
        clear hmem hbl hq
        go_wp2
        go_ret
        exact ⟨rfl, B5.out⟩
      · have h0 : d < 0 := by
          have : ¬ 0 ≤ d := fun h => hbl (hmem.2 h)
          omega
        have hq : decide (b ∈ l) = false := by simp [hbl]
        have hq2 : decide (0 ≤ d) = false := by simp; omega
        rw [hq]
        clear hmem hbl hq
        go_wp2
        go_ret
        exact ⟨rfl, B5.out⟩
end Go.Proofs.Ytconeplgbemblaa

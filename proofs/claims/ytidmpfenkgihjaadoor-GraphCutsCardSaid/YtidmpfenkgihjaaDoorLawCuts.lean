/- The walk of backstaylaw05.GraphCuts. -/
import Derived.Test.YtidmpfenkgihjaaDoorCutP
import Derived.Test.YtidmpfenkgihjaaDoorBitW
import Derived.Test.YtidmpfenkgihjaaDoorNetB
import Derived.Test.YtidmpfenkgihjaaDoorLaw5
namespace Go.Proofs.YtidmpfenkgihjaaDoor
set_option linter.unusedSimpArgs false
set_option linter.unusedVariables false
open Go.RowKit

attribute [local go_sem ↓] Go.wp_at_zero Go.wp_at_succ
set_option maxRecDepth 100000 in
set_option maxHeartbeats 8000000 in
theorem graphCuts_walk (a0 : Option Addr) (c0 : Nat) (l0 : List Int) (n1 n2 : Int) (w : World) (h0 : InRow w a0 c0 l0) (k1 : In64 n1) (k2 : In64 n2) (ht : Tab w) :
    Calls Tryd.prog 3 #[.slice a0 l0.length c0, .int .i64 n1, .int .i64 n2] w fun e w' => e = .returned (.bool true) ∧ Below w.heap.size w w' := by
  have I1 := Lib.hid k1
  have I2 := Lib.hid k2
  have HT := Lib.hid ht
  obtain ⟨i0, hi, hz0, hz1, hz2⟩ := info_parts Tryd.info_int
  clear k1 k2 ht
  have H0 := Lib.hid h0
  clear h0
  go_enter Tryd.func3, Tryd.ntmps3
  go_wp2_with fail
  refine (awake5 _).mono ?_
  rintro e w1 ⟨rfl, hb1⟩
  have J0 := Lib.hid (H0.out.call hb1)
  have B1 := Lib.hid hb1
  clear hb1
  go_wp2_with fail
  refine (net_any _ _ l0 c0 J0.out.len J0.out.le J0.out.rd J0.out.in64).mono ?_
  rintro e w2 ⟨p, h, rfl, hok, hown, hb⟩
  have B2 := Lib.hid (since_trans B1.out hb)
  have OK := Lib.hid hok
  have GD := Lib.hid hok.good
  have P0 : Hid (PB w (w2.alloc (.cells #[.int .i64 p.proto, .int .i64 p.cap, .int .i64 p.k, .slice h.an p.nodes.length h.cn, .slice h.al p.links.length h.cl, .slice h.ad p.dests.length h.cd, .slice h.ac p.checks.length h.cc] 29)) w2.heap.size p h) := Lib.hid (PB.begin B2.out hown.net)
  have hn2 := hok.n.1
  have hn7 := hok.n.2
  clear hb hown hok
  unfold netV netVal
  obtain ⟨g0, g1, g2, g3, g4, g5, g6⟩ := P0.out.all
  go_wp2_with fail
  refine (pick5_any n1 512 _ I1.out (by omega) (by omega)).mono ?_
  rintro e w' ⟨rfl, rfl⟩
  have hxb := pickV_in (c := n1) (n := 512) (by omega)
  generalize pickV n1 512 = x at *
  obtain ⟨x, rfl⟩ : ∃ n : Nat, x = n := ⟨x.toNat, by omega⟩
  have hx512 : x < 512 := by omega
  clear hxb
  have h16 := GD.out.l16
  by_cases hl0 : p.links.length = 0
  · have hq : ((p.links.length : Int) == 0) = true := by simp [hl0]
    have hc0 : (cutL p.links (x : Int) p.links.length).length = 0 := by have := cutL_le p.links (x : Int) p.links.length; omega
    have HC0 := Lib.hid hc0
    clear hl0 hc0
    go_wp2_with fail
    refine (cuts_any p h x _ P0.out.net GD.out).mono ?_
    rintro e w3 ⟨A, c, rfl, -, hb3⟩
    rw [HC0.out]
    have P1 := Lib.hid (P0.out.call hb3)
    clear hb3
    go_wp2
    go_ret
    exact ⟨rfl, P1.out.below⟩
  have hq : ((p.links.length : Int) == 0) = false := by simp [hl0]
  go_wp2_with fail
  refine (pick5_any n2 p.links.length _ I2.out (by omega) (by omega)).mono ?_
  rintro e w' ⟨rfl, rfl⟩
  have hib := pickV_in (c := n2) (n := (p.links.length : Int)) (by omega)
  generalize pickV n2 (p.links.length : Int) = i at *
  obtain ⟨i, rfl⟩ : ∃ n : Nat, i = n := ⟨i.toNat, by omega⟩
  have hil : i < p.links.length := by omega
  clear hib hq hl0
  obtain ⟨y, hy⟩ : ∃ y, p.links[i]? = some y := ⟨_, List.getElem?_eq_getElem hil⟩
  have HY := Lib.hid hy
  have hoy := GD.out.lksOk _ (List.mem_of_getElem? hy)
  have HCL := Lib.hid (cut_law (x := x) GD.out.lksOk h16 hil)
  obtain ⟨hcf1, hcf2⟩ := cut_fewer (f := (x : Int)) (N := p.nodes.length) GD.out.lksOk h16 hy
  have HF1 := Lib.hid hcf1
  have HF2 := Lib.hid hcf2
  have HSW := Lib.hid (setN_with hx512 i)
  have HLN := Lib.hid (posL_len x hx512)
  clear hy hcf1 hcf2
  go_wp2_with fail
  refine (cuts_any p h x _ P0.out.net GD.out).mono ?_
  rintro e w3 ⟨A, c, rfl, hown, hb3⟩
  have P1 := Lib.hid (P0.out.call hb3)
  have O1 := Lib.hid hown.rd
  have hcl := cutL_le p.links (x : Int) p.links.length
  clear hb3 hown P0 g0 g1 g2 g3 g4 g5 g6
  generalize cutL p.links (x : Int) p.links.length = L at *
  obtain ⟨g0, g1, g2, g3, g4, g5, g6⟩ := P1.out.all
  generalize w2.heap.size = bp at *
  go_upto_region 8 with fail
  go_cut [12] (fun s wx => s = .bool false ∧ PB w wx bp p h ∧ Rd wx wx.heap.size 1 A L.length (nats L))
  case first =>
    go_wp2_with fail
    go_meet
    case rel => exact ⟨rfl, P1.out, O1.out⟩
  case rest =>
  clear P1 O1 g0 g1 g2 g3 g4 g5 g6
  obtain ⟨rfl, hP, hO⟩ := hcut
  have P1 := Lib.hid hP
  have O1 := Lib.hid hO
  clear hP hO
  go_upto_region 9 with fail
  go_cut [13] (fun s wx => s = .int .i64 0 ∧ PB w wx bp p h ∧ Rd wx wx.heap.size 1 A L.length (nats L))
  case first =>
    go_wp2_with fail
    go_meet
    case rel => exact ⟨rfl, P1.out, O1.out⟩
  case rest =>
  clear P1 O1
  obtain ⟨rfl, hP, hO⟩ := hcut
  have P1 := Lib.hid hP
  have O1 := Lib.hid hO
  clear hP hO
  rename_i hKl
  refine hKl _ _ ?_
  clear hKl
  go_cut [12] (fun s wx => s = .bool (decide (i ∈ L)) ∧ PB w wx bp p h)
  case first =>
    go_wp2_with fail
    go_loopw [12, 13] (fun sc sk wx => ∃ k : Nat, k ≤ L.length ∧ sk = .int .i64 (k : Int) ∧ sc = .bool (decide (i ∈ L.take k)) ∧ PB w wx bp p h ∧ Rd wx wx.heap.size 1 A L.length (nats L)) (fun _ sk _ => L.length - (intOf sk).toNat)
    case atStart => exact ⟨0, Nat.zero_le _, rfl, by simp, P1.out, O1.out⟩
    case round =>
      clear P1 O1
      obtain ⟨k, hk, rfl, rfl, hP, hO⟩ := hrel
      have P1 := Lib.hid hP
      have O1 := Lib.hid hO
      clear hP hO
      by_cases hlt : k < L.length
      · obtain ⟨v, hv⟩ : ∃ v, L[k]? = some v := ⟨_, List.getElem?_eq_getElem hlt⟩
        obtain ⟨b, o, rfl, hb, hc⟩ := O1.out.one (i := k) (x := .int .i64 (v : Int)) (nats_at hv)
        have HS : Hid (decide (i ∈ L.take (k + 1)) = (decide (i ∈ L.take k) || decide (v = i))) := Lib.hid (by
          rw [List.take_add_one, hv, Bool.eq_iff_iff]; simp only [List.mem_append, Option.toList_some, List.mem_singleton, Bool.or_eq_true, decide_eq_true_eq]; exact or_congr Iff.rfl ⟨Eq.symm, Eq.symm⟩)
        have hk0 : (0 : Int) ≤ (k : Int) := by omega
        have hk1 : (k : Int) < (L.length : Int) := by omega
        clear hv
        cases hd : decide (i ∈ L.take k) with
        | true =>
          have HD := Lib.hid hd
          clear hd
          go_wp2_with fail
          go_roundw
          case rel => exact ⟨k + 1, by omega, by go_num, by rw [HS.out, HD.out]; rfl, P1.out, O1.out⟩
          case measure => simp [intOf]; omega
        | false =>
          have HD := Lib.hid hd
          have hvi : ((v : Int) == (i : Int)) = decide (v = i) := by rw [Bool.eq_iff_iff, beq_iff_eq, decide_eq_true_eq]; omega
          have HV := Lib.hid hvi
          clear hd hvi
          go_wp2_with fail
          go_roundw
          case rel => exact ⟨k + 1, by omega, by go_num, by rw [HS.out, HD.out, ← HV.out]; rfl, P1.out, O1.out⟩
          case measure => simp [intOf]; omega
      · have hkL : k = L.length := by omega
        subst hkL
        have hge : ¬ (L.length : Int) < (L.length : Int) := by omega
        go_wp2_with fail
        go_meet
        case rel => exact ⟨rfl, P1.out⟩
  case rest =>
  clear P1 O1 hcl
  obtain ⟨rfl, hP⟩ := hcut
  have P1 := Lib.hid hP
  have HD : Hid (decide (i ∈ L) = cutB p.links (x : Int) i) := Lib.hid (by rw [Bool.eq_iff_iff, decide_eq_true_eq]; exact HCL.out)
  rw [HD.out]
  clear HD HCL
  obtain ⟨g0, g1, g2, g3, g4, g5, g6⟩ := hP.all
  obtain ⟨bl, ol, el, hbl, q0, -, -⟩ := hP.net.links.link HY.out
  have HE := Lib.hid el
  rw [el] at g4
  have hi0 : (0 : Int) ≤ (i : Int) := by omega
  have hi1 : (i : Int) < (p.links.length : Int) := by omega
  clear hP el
  go_upto_region 14 with fail
  go_cut [15] (fun s wx => s = .int .i64 (withB (x : Int) (i : Int)) ∧ PB w wx bp p h)
  case first =>
    have HTc := Lib.hid (HT.out.call P1.out.below)
    have LS := Lib.hid (blist_any x hx512 _ HTc.out)
    have HQ16 : Hid (∀ v ∈ posL x ++ [i], v < 16) := Lib.hid (fun v hv => by
      rcases List.mem_append.1 hv with hv | hv
      · have := (List.mem_filter.1 hv).1; simp at this; omega
      · simp at hv; omega)
    have hlen9 := HLN.out
    clear hi0 hi1 q0 hbl
    go_wp2_with fail
    refine LS.out.mono ?_
    rintro e w4 ⟨A4, c4, rfl, ho4, hb4⟩
    have P4 := Lib.hid (P1.out.call hb4)
    have O4 := Lib.hid ho4
    have hs4 := hb4.size
    have HB4 := Lib.hid hb4
    clear ho4 hb4 LS g0 g1 g2 g3 g4 g5 g6
    go_wp2_with (at_builtin; refine wpList_app _ rfl _ _ 22 rfl wc.heap.size 3 i0 (.int .i64 0) 1 8 Tryd.underlying22 hi hz0 hz1 hz2 rfl (by decide) _ _ _ (nats (posL x)) rfl (by exact O4.out.alloc _) _ 1 _ [.int .i64 (i : Int)] rfl (Rd.new (by simp) rfl) (by intro u hu; simp at hu; subst hu; rfl) (by unfold maxLen; omega) (by omega) (by simp; omega) ?_; intro A2 c2 w2 hown2 hgrow2 hblk2 _)
    have P5 := Lib.hid (P1.out.call ((HB4.out.alloc hs4 _).grown hgrow2 (by simp; omega) (fun g hg => O4.out.from_ g hg)))
    have hlen : (posL x).length + 1 = (posL x ++ [i]).length := by simp
    have hO : Rd w2 w2.heap.size 1 A2 (posL x ++ [i]).length (nats (posL x ++ [i])) := by
      have := hown2.rd
      rw [← nats_snoc, hlen] at this
      exact this
    have HO := Lib.hid hO
    clear hown2 hgrow2 hblk2 hO
    rw [hlen]
    have HOF : Calls Tryd.prog 10 #[.slice A2 (posL x ++ [i]).length c2] w2 fun e w' => e = .returned (.int .i64 (withB (x : Int) (i : Int))) ∧ w2 = w' := (bof_any (posL x ++ [i]) HQ16.out (by simp; omega) A2 c2 _ w2 HO.out).mono fun e w' ⟨h1, h2⟩ => ⟨by rw [h1, HSW.out], h2⟩
    refine HOF.mono ?_
    rintro e w5 ⟨rfl, rfl⟩
    dsimp only
    go_wp2_with fail
    go_meet
    case rel => exact ⟨rfl, P5.out⟩
  case rest =>
  clear P1 g0 g1 g2 g3 g4 g5 g6 q0 hbl hi0 hi1 HSW HLN HT
  obtain ⟨rfl, hP⟩ := hcut
  have P1 := Lib.hid hP
  clear hP
  have HC : Hid (∀ wy, PB w wy bp p h → wy.cell? ⟨bp, 0, none⟩ = some (.int .i64 p.proto) ∧ wy.cell? ⟨bp, 1, none⟩ = some (.int .i64 p.cap) ∧ wy.cell? ⟨bp, 2, none⟩ = some (.int .i64 p.k) ∧ wy.cell? ⟨bp, 3, none⟩ = some (.slice h.an p.nodes.length h.cn) ∧
      wy.cell? ⟨bp, 4, none⟩ = some (.slice h.al p.links.length h.cl) ∧ wy.cell? ⟨bp, 5, none⟩ = some (.slice h.ad p.dests.length h.cd) ∧ wy.cell? ⟨bp, 6, none⟩ = some (.slice h.ac p.checks.length h.cc)) := Lib.hid (fun wy a => a.all)
  have HRX : Hid (∀ (f : Int) wy, PB w wy bp p h → Calls Tryd.prog 12 #[.agg #[.int .i64 p.proto, .int .i64 p.cap, .int .i64 p.k, .slice h.an p.nodes.length h.cn, .slice h.al p.links.length h.cl, .slice h.ad p.dests.length h.cd, .slice h.ac p.checks.length h.cc], .int .i64 f, .int .i64 y.a] wy fun e w' => ∃ A c, e = .returned (.slice A (reachL p.links f p.nodes.length y.a.toNat).length c) ∧ PB w w' bp p h) := Lib.hid (fun f wy a =>
    (reach_len a.net GD.out (by omega)).mono fun e w' ⟨A, c, h1, h2, h3⟩ => ⟨A, c, h1, a.call h3⟩)
  have HHX := Lib.hid (fun wy => has_any (x : Int) (i : Int) wy)
  have hd0 : PB w wc.drew bp p h := P1.out.call (below_drew (Below.refl _ _))
  have RY := Lib.hid (HRX.out (withB (x : Int) (i : Int)))
  have RX := Lib.hid (HRX.out (x : Int))
  have HF1' := HF1.out
  have HF2' := HF2.out
  generalize (reachL p.links (withB (x : Int) (i : Int)) p.nodes.length y.a.toNat).length = ry at *
  generalize (reachL p.links (x : Int) p.nodes.length y.a.toNat).length = rx at *
  generalize withB (x : Int) (i : Int) = fy at *
  have HLT : Hid (decide (ry < rx) = cutB p.links (x : Int) i) := Lib.hid HF1'.symm
  have HF2b := Lib.hid HF2'
  clear HF1' HF2' HF1 HF2 HRX hoy hil
  go_upto_region 15 with fail
  refine wp_region_held_drew (S := (fun wy => wy.cell? ⟨bp, 0, none⟩ = some (.int .i64 p.proto) ∧ wy.cell? ⟨bp, 1, none⟩ = some (.int .i64 p.cap) ∧ wy.cell? ⟨bp, 2, none⟩ = some (.int .i64 p.k) ∧ wy.cell? ⟨bp, 3, none⟩ = some (.slice h.an p.nodes.length h.cn) ∧ wy.cell? ⟨bp, 4, none⟩ = some (.slice h.al p.links.length h.cl) ∧ wy.cell? ⟨bp, 5, none⟩ = some (.slice h.ad p.dests.length h.cd) ∧ wy.cell? ⟨bp, 6, none⟩ = some (.slice h.ac p.checks.length h.cc))) (by kernel_rfl) (HC.out _ hd0) (fun hHeld0 => ?_)
  refine take_list (i := 0) (v := ?_) rfl (by kernel_rfl) (by kernel_rfl) (by kernel_rfl) (fun _ _ _ h => h) (Or.inl ⟨by rfl, ?_⟩) (by assumption) ?_
  rotate_left
  · (intro w hSw; (try dsimp only at hSw); go_simp; try (with_reducible rfl))
  try simp only [Act.put, List.setIfInBounds_toArray, List.set_cons_zero, List.set_cons_succ]
  refine take_list (i := 1) (v := ?_) rfl (by kernel_rfl) (by kernel_rfl) (by kernel_rfl) (fun _ _ _ h => h) (Or.inl ⟨by rfl, ?_⟩) (by assumption) ?_
  rotate_left
  · (intro w hSw; (try dsimp only at hSw); go_simp; try (with_reducible rfl))
  try simp only [Act.put, List.setIfInBounds_toArray, List.set_cons_zero, List.set_cons_succ]
  refine take_list (i := 2) (v := ?_) rfl (by kernel_rfl) (by kernel_rfl) (by kernel_rfl) (fun _ _ _ h => h) (Or.inl ⟨by rfl, ?_⟩) (by assumption) ?_
  rotate_left
  · (intro w hSw; (try dsimp only at hSw); go_simp; try (with_reducible rfl))
  try simp only [Act.put, List.setIfInBounds_toArray, List.set_cons_zero, List.set_cons_succ]
  refine take_list (i := 5) (v := ?_) rfl (by kernel_rfl) (by kernel_rfl) (by kernel_rfl) (fun _ _ _ h => h) (Or.inl ⟨by rfl, ?_⟩) (by assumption) ?_
  rotate_left
  · (intro w hSw; (try dsimp only at hSw); go_simp; try (with_reducible rfl))
  try simp only [Act.put, List.setIfInBounds_toArray, List.set_cons_zero, List.set_cons_succ]
  refine take_list (i := 6) (v := ?_) rfl (by kernel_rfl) (by kernel_rfl) (by kernel_rfl) (fun _ _ _ h => h) (Or.inl ⟨by rfl, ?_⟩) (by assumption) ?_
  rotate_left
  · (intro w hSw; (try dsimp only at hSw); go_simp; try (with_reducible rfl))
  try simp only [Act.put, List.setIfInBounds_toArray, List.set_cons_zero, List.set_cons_succ]
  refine take_list (i := 7) (v := ?_) rfl (by kernel_rfl) (by kernel_rfl) (by kernel_rfl) (fun _ _ _ h => h) (Or.inl ⟨by rfl, ?_⟩) (by assumption) ?_
  rotate_left
  · (intro w hSw; (try dsimp only at hSw); go_simp; try (with_reducible rfl))
  try simp only [Act.put, List.setIfInBounds_toArray, List.set_cons_zero, List.set_cons_succ]
  refine wpAnyH_ready (rs := [3]) (by kernel_rfl) (by simp) ?_
  refine cons_list rfl (fun K hK => ?_) AllReadyH.nil
  go_simp
  (go_at_call 12; refine (RY.out _ hd0).mono ?_; rintro e wn ⟨An, cn, rfl, hd1⟩)
  refine hK.out _ _ ((by first | exact HC.out _ hd2 | exact HC.out _ hd1)) (fun hHeld1 => ?_)
  clear hK K hHeld0
  try simp only [Act.put, List.setIfInBounds_toArray, List.set_cons_zero, List.set_cons_succ]
  refine take_list (i := 4) (v := ?_) rfl (by kernel_rfl) (by kernel_rfl) (by kernel_rfl) (fun _ _ _ h => h) (Or.inl ⟨by rfl, ?_⟩) (by assumption) ?_
  rotate_left
  · (intro w hSw; (try dsimp only at hSw); go_simp; try (with_reducible rfl))
  try simp only [Act.put, List.setIfInBounds_toArray, List.set_cons_zero, List.set_cons_succ]
  refine wpAnyH_ready (rs := [8]) (by kernel_rfl) (by simp) ?_
  refine cons_list rfl (fun K hK => ?_) AllReadyH.nil
  go_simp
  (go_at_call 12; refine (RX.out _ hd1).mono ?_; rintro e wm ⟨Am, cm, rfl, hd2⟩)
  refine hK.out _ _ ((by first | exact HC.out _ hd2 | exact HC.out _ hd1)) (fun hHeld2 => ?_)
  clear hK K hHeld1
  try simp only [Act.put, List.setIfInBounds_toArray, List.set_cons_zero, List.set_cons_succ]
  refine take_list (i := 9) (v := ?_) rfl (by kernel_rfl) (by kernel_rfl) (by kernel_rfl) (fun _ _ _ h => h) (Or.inl ⟨by rfl, ?_⟩) (by assumption) ?_
  rotate_left
  · (intro w hSw; (try dsimp only at hSw); go_simp; try (with_reducible rfl))
  try simp only [Act.put, List.setIfInBounds_toArray, List.set_cons_zero, List.set_cons_succ]
  refine take_list (i := 10) (v := ?_) rfl (by kernel_rfl) (by kernel_rfl) (by kernel_rfl) (fun _ _ _ h => h) (Or.inl ⟨by rfl, ?_⟩) (by assumption) ?_
  rotate_left
  · (intro w hSw; (try dsimp only at hSw); go_simp; try (with_reducible rfl))
  try simp only [Act.put, List.setIfInBounds_toArray, List.set_cons_zero, List.set_cons_succ]
  refine take_list (i := 11) (v := ?_) rfl (by kernel_rfl) (by kernel_rfl) (by kernel_rfl) (fun _ _ _ h => h) (Or.inl ⟨by rfl, ?_⟩) (by assumption) ?_
  rotate_left
  · (intro w hSw; (try dsimp only at hSw); go_simp; try (with_reducible rfl))
  try simp only [Act.put, List.setIfInBounds_toArray, List.set_cons_zero, List.set_cons_succ]
  refine wpAnyH_done (by kernel_rfl) ?_ _
  clear hHeld2
  have P2 := Lib.hid hd2
  clear hd0 hd1 hd2 HC RY RX
  rw [HLT.out]
  cases hC : cutB p.links (x : Int) i with
  | false =>
    clear HF2b HLT
    go_wp2
    go_ret
    exact ⟨rfl, P2.out.below⟩
  | true =>
    have hhx := HF2b.out hC
    rw [hhx] at HHX
    clear HF2b hhx HLT
    go_wp2_with (go_at_call 13; refine (HHX.out _).mono ?_; rintro e w9 ⟨rfl, rfl⟩)
    go_ret
    exact ⟨rfl, P2.out.below⟩
end Go.Proofs.YtidmpfenkgihjaaDoor

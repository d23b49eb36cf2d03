/- The walk of backstaylaw06.AttrFirst. -/
import Derived.Test.YtmioaanbehacgaaDoorBox
import Derived.Test.YtmioaanbehacgaaDoorStepApp
namespace Go.Proofs.YtmioaanbehacgaaDoor
set_option linter.unusedSimpArgs false
set_option linter.unusedVariables false
open Go.RowKit


/-! ### Plainly -/
theorem cmpI_self (x : Int) : cmpI x x = 0 := cmpI_zero.2 rfl
theorem lexI_self (l : List Int) : lexI l l = 0 := lexI_zero.2 rfl
theorem lexI_head (x y : Int) (p : List Int) : lexI (x :: p) (y :: p) = cmpI x y := by
  rw [lexI]
  split
  · rfl
  · rename_i h
    rw [lexI_self]
    have : cmpI x y = 0 := by simpa using h
    rw [this]
theorem lexI_last (x y : Int) : ∀ (p : List Int), lexI (p ++ [x]) (p ++ [y]) = cmpI x y
  | [] => lexI_head x y []
  | a :: p => by
    rw [List.cons_append, List.cons_append, lexI, if_neg (by simp [cmpI_self])]
    exact lexI_last x y p
theorem better_paths {p q : List Int} (h : p.length = q.length) (x y : Int) (hl : lexI p q = cmpI x y) : betterB ⟨2, 0, p⟩ ⟨2, 0, q⟩ = decide (x < y) := by
  rw [Bool.eq_iff_iff, betterB_iff, decide_eq_true_eq, ← cmpI_neg (x := x) (y := y), ← hl]
  constructor
  · rintro (h1 | ⟨_, h1 | ⟨_, h1 | ⟨_, h1⟩⟩⟩)
    · exact absurd h1 (Int.lt_irrefl _)
    · exact absurd h1 (Int.lt_irrefl _)
    · exact absurd h1 (by show ¬ p.length < q.length; omega)
    · exact h1
  · intro h1
    exact .inr ⟨rfl, .inr ⟨rfl, .inr ⟨h, h1⟩⟩⟩
theorem better_shorter {p q : List Int} (h : p.length < q.length) : betterB ⟨2, 0, p⟩ ⟨2, 0, q⟩ = true :=
  (betterB_iff _ _).2 (.inr ⟨rfl, .inr ⟨rfl, .inl h⟩⟩)
theorem right_cons {p : List Int} {x : Int} (h : PathOk p) (hl : p.length ≤ 10) (hx : 1 ≤ x ∧ x ≤ 65535) (hn : x ∉ p) : rtRightB ⟨2, 0, x :: p⟩ = true ∧ rtRightB ⟨2, 0, p ++ [x]⟩ = true := by
  have h1 : PathOk (x :: p) := ⟨by simp; omega, List.nodup_cons.2 ⟨hn, h.2.1⟩, fun y hy => by
    rcases List.mem_cons.1 hy with rfl | hy
    · exact hx
    · exact h.2.2 y hy⟩
  have h2 : PathOk (p ++ [x]) := ⟨by simp; omega, by
    rw [List.nodup_append]
    refine ⟨h.2.1, by simp, fun a ha b hb => ?_⟩
    simp at hb; subst hb
    rintro rfl; exact hn ha, fun y hy => by
    rcases List.mem_append.1 hy with hy | hy
    · exact h.2.2 y hy
    · simp at hy; subst hy; exact hx⟩
  constructor
  · simp [rtRightB, h1.listB]
  · simp [rtRightB, h2.listB]
set_option maxRecDepth 100000 in
set_option maxHeartbeats 8000000 in
theorem attrFirst_walk (a0 : Option Addr) (c0 : Nat) (l0 : List Int) (n1 n2 : Int) (w : World) (h0 : InRow w a0 c0 l0) (k1 : In64 n1) (k2 : In64 n2) (ht : Tab w) :
    Calls Tryd.prog 10 #[.slice a0 l0.length c0, .int .i64 n1, .int .i64 n2] w fun e w' => e = .returned (.bool true) ∧ Below w.heap.size w w' := by
  generalize hR0 : routeR l0 = r0
  have K0 := Lib.hid hR0
  have O0 := Lib.hid (hR0 ▸ routeR_ok l0)
  have H0 := Lib.hid h0
  have HT := Lib.hid ht
  have I1 := Lib.hid k1
  have I2 := Lib.hid k2
  obtain ⟨i0, hi0, hzz0, hzs0, hzb0⟩ := info_parts Tryd.info_int
  clear hR0 h0 ht k1 k2
  have hx := pickV_in (c := n1) (n := 40000) (by omega)
  have hy := pickV_in (c := n2) (n := 40000) (by omega)
  obtain ⟨hx0, hx1⟩ := hx
  obtain ⟨hy0, hy1⟩ := hy
  go_enter Tryd.func10, Tryd.ntmps10
  go_wp2_with fail
  refine (awake6 _ HT.out).mono ?_
  rintro e w1 ⟨rfl, hb1⟩
  have J0 := Lib.hid (H0.out.call hb1)
  have B1 := Lib.hid hb1
  clear hb1
  go_wp2_with fail
  refine (route_any l0 _ _ _ J0.out.rd J0.out.in64 J0.out.len).mono ?_
  rintro e w2 ⟨A0, d0, rfl, ho, hb⟩
  rw [K0.out] at ho ⊢
  have B2 := Lib.hid (since_trans B1.out hb)
  have X0 := Lib.hid (Box.new (RtR.of_own ho))
  have B3 := Lib.hid (since_alloc B2.out (.cells #[.int .i64 r0.kind, .int .i64 r0.cost, .slice A0 r0.path.length d0] 24))
  clear hb ho
  by_cases hk : r0.kind = 2
  rotate_left
  · have hk' : (r0.kind != 2) = true := by simp [hk]
    clear hk
    unfold rtV
    go_wp2
    go_ret
    exact ⟨rfl, B3.out⟩
  by_cases hl10 : r0.path.length ≤ 10
  rotate_left
  · have hk' : (r0.kind != 2) = false := by simp [hk]
    have hl' : (10 : Int) < r0.path.length := by omega
    clear hk
    unfold rtV
    go_wp2
    go_ret
    exact ⟨rfl, B3.out⟩
  have hl' : (r0.path.length : Int) ≤ 10 := by omega
  have hok := (O0.out.k2 hk)
  obtain ⟨rk, rc, p⟩ := r0
  simp only at hk hl10 hl'
  obtain ⟨hrc, hpo⟩ := hok
  simp only at hrc hpo
  subst hk hrc
  have HPO := Lib.hid hpo
  clear hpo
  unfold rtV
  go_wp2_with fail
  have hX := X0.out
  obtain ⟨g0, g1, g2⟩ := hX.at_
  clear hX
  refine (pick6_any n1 40000 _ I1.out (by omega) (by omega)).mono ?_
  rintro e w' ⟨rfl, rfl⟩
  go_wp2_with fail
  refine (pick6_any n2 40000 _ I2.out (by omega) (by omega)).mono ?_
  rintro e w' ⟨rfl, rfl⟩
  generalize hxv : pickV n1 40000 = x' at *
  generalize hyv : pickV n2 40000 = y' at *
  clear hxv hyv I1 I2
  go_wp2_with fail
  go_loop [11] (fun q => ∃ k : Nat, k ≤ p.length ∧ q = .int .i64 k ∧ ∀ j z, j < k → p[j]? = some z → z ≠ 20000 + x' ∧ z ≠ 20000 + y') (fun q => p.length - (intOf q).toNat)
  case atStart => exact ⟨0, Nat.zero_le _, rfl, by intro j z hj; omega⟩
  case round =>
    obtain ⟨k, hk, rfl, hall⟩ := hrel
    have HALL := Lib.hid hall
    clear hall
    by_cases hlt : k < p.length
    · obtain ⟨z, hz⟩ : ∃ z, p[k]? = some z := ⟨_, List.getElem?_eq_getElem hlt⟩
      obtain ⟨b, o, rfl, hb, hc⟩ := X0.out.rt.1.one (i := k) (x := .int .i64 z) (by simp [ints, hz])
      have HZ := Lib.hid hz
      clear hz
      by_cases e1 : z = 20000 + x'
      · have f1 : (z == 20000 + x') = true := by simp [e1]
        clear e1
        go_wp2_with fail
        go_ret
        exact ⟨rfl, B3.out⟩
      have f1 : (z == 20000 + x') = false := by simp [e1]
      by_cases e2 : z = 20000 + y'
      · have f2 : (z == 20000 + y') = true := by simp [e2]
        clear e1 e2
        go_wp2_with fail
        go_ret
        exact ⟨rfl, B3.out⟩
      have f2 : (z == 20000 + y') = false := by simp [e2]
      have HE := Lib.hid (show ∀ j z', j < k + 1 → p[j]? = some z' → z' ≠ 20000 + x' ∧ z' ≠ 20000 + y' from fun j z' hj hz' => by
        by_cases hjk : j = k
        · subst hjk
          rw [HZ.out] at hz'
          injection hz' with hz'
          subst hz'
          exact ⟨e1, e2⟩
        · exact HALL.out j z' (by omega) hz')
      clear e1 e2
      go_wp2_with fail
      go_round
      case rel => exact ⟨k + 1, by omega, by go_num, HE.out⟩
      case measure => simp [intOf]; omega
    · have hpk : k = p.length := by omega
      subst hpk
      have HALL' := Lib.hid (show ∀ z ∈ p, z ≠ 20000 + x' ∧ z ≠ 20000 + y' from fun z hz => by
        obtain ⟨j, hj, rfl⟩ := List.mem_iff_getElem.1 hz
        exact HALL.out j _ hj (List.getElem?_eq_getElem hj))
      clear HALL
      have HRD := Lib.hid (fun (wx : World) (hb : Below (w2.alloc (.cells #[.int .i64 2, .int .i64 0, .slice A0 p.length d0] 24)).heap.size (w2.alloc (.cells #[.int .i64 2, .int .i64 0, .slice A0 p.length d0] 24)) wx) => (X0.out.call hb).rt.1)
      have HHB := Lib.hid (Below.refl (w2.alloc (.cells #[.int .i64 2, .int .i64 0, .slice A0 p.length d0] 24)).heap.size (w2.alloc (.cells #[.int .i64 2, .int .i64 0, .slice A0 p.length d0] 24)))
      go_upto_region 12 with fail
      go_cut [12] (fun s wx => ∃ (b : Nat) (A : Option Addr) (c : Nat), s = .pointer (some ⟨b, 0, none⟩) ∧ Box wx b ⟨2, 0, (20000 + x') :: p⟩ A c ∧ Below (w2.alloc (.cells #[.int .i64 2, .int .i64 0, .slice A0 p.length d0] 24)).heap.size (w2.alloc (.cells #[.int .i64 2, .int .i64 0, .slice A0 p.length d0] 24)) wx)
      case first =>
        go_wp2_with (at_builtin; refine wpList_app _ rfl _ _ 22 rfl (w2.heap.size + 1) 3 i0 (.int .i64 0) 1 8 Tryd.underlying22 hi0 hzz0 hzs0 hzb0 rfl (by decide) _ _ _ [.int .i64 (20000 + x')] rfl (by exact Own.one (by simp) _) _ p.length _ (ints p) rfl ((HRD.out _ (by repeat (first | assumption | exact Below.refl _ _ | (refine Below.alloc ?_ (by first | (simp; done) | (simp; omega)) _)))).more (by first | exact Nat.le_refl _ | (simp; done) | (simp; omega))) (by intro u hu; simp [ints] at hu; obtain ⟨z, _, rfl⟩ := hu; rfl) (by unfold maxLen; omega) (by omega) (by first | (simp; done) | (simp; omega)) ?_; intro A2 c2 w2' hown2 hgrow2 hblk2 _; (have hz2' := hgrow2.size))
        go_meet
        case rel => exact ⟨_, _, _, rfl, Box.ahead (by simp) hown2 hgrow2⟩
      case rest =>
      obtain ⟨b1, E1, e1, rfl, hbx1, hb1⟩ := hcut
      have T1 := Lib.hid hbx1
      have C1 := Lib.hid hb1
      have hbz1 : w2.heap.size + 1 ≤ wc.heap.size := by have := hb1.size; simpa using this
      obtain ⟨v1, rfl⟩ : ∃ v, v = wc := ⟨_, rfl⟩
      have m2 : v1.cell? ⟨w2.heap.size, 2, none⟩ = some (.slice A0 p.length d0) := (X0.out.call hb1).at_.2.2
      have m3 := World.new_ne v1 _ m2
      have m4 : w2.heap.size < v1.heap.size := by omega
      go_upto_region 13 with fail
      go_cut [13] (fun s wx => ∃ (b : Nat) (A : Option Addr) (c : Nat), s = .pointer (some ⟨b, 0, none⟩) ∧ Box wx b ⟨2, 0, (20000 + y') :: p⟩ A c ∧ Below v1.heap.size v1 wx)
      case first =>
        go_wp2_with (at_builtin; refine wpList_app _ rfl _ _ 22 rfl v1.heap.size 3 i0 (.int .i64 0) 1 8 Tryd.underlying22 hi0 hzz0 hzs0 hzb0 rfl (by decide) _ _ _ [.int .i64 (20000 + y')] rfl (by exact Own.one rfl _) _ p.length _ (ints p) rfl ((HRD.out _ (by repeat (first | assumption | exact Below.refl _ _ | (refine Below.alloc ?_ (by first | (simp; done) | (simp; omega)) _)))).more (by first | exact Nat.le_refl _ | (simp; done) | (simp; omega))) (by intro u hu; simp [ints] at hu; obtain ⟨z, _, rfl⟩ := hu; rfl) (by unfold maxLen; omega) (by omega) (by first | (simp; done) | (simp; omega)) ?_; intro A2 c2 w2' hown2 hgrow2 hblk2 _; (have hz2' := hgrow2.size))
        go_meet
        case rel => exact ⟨_, _, _, rfl, Box.ahead rfl hown2 hgrow2⟩
      case rest =>
      obtain ⟨b2, E2, e2, rfl, hbx2, hb2⟩ := hcut
      obtain ⟨v2, rfl⟩ : ∃ v, v = wc := ⟨_, rfl⟩
      have T2 := Lib.hid hbx2
      have hc2 := C1.out.trans (hb2.mono (by have := C1.out.size; simpa using this))
      have C2 := Lib.hid hc2
      have hbz2 : w2.heap.size + 1 ≤ v2.heap.size := by have := hc2.size; simpa using this
      clear m2 m3 m4
      have m2 : v2.cell? ⟨w2.heap.size, 2, none⟩ = some (.slice A0 p.length d0) := (X0.out.call hc2).at_.2.2
      have m3 := World.new_ne v2 _ m2
      have m4 : w2.heap.size < v2.heap.size := by omega
      have D2 := Lib.hid hb2
      clear hb2 hb1 hbx1 hbx2
      go_upto_region 14 with fail
      go_cut [14] (fun s wx => ∃ (b : Nat) (A : Option Addr) (c : Nat), s = .pointer (some ⟨b, 0, none⟩) ∧ Box wx b ⟨2, 0, p ++ [(20000 + x')]⟩ A c ∧ Below v2.heap.size v2 wx)
      case first =>
        go_wp2_with (first | (at_builtin; refine wpList_app _ rfl _ _ 22 rfl v2.heap.size 3 i0 (.int .i64 0) 1 8 Tryd.underlying22 hi0 hzz0 hzs0 hzb0 rfl (by decide) _ _ _ [] rfl (by exact Own.nil _ _ _ _) _ p.length _ (ints p) rfl ((HRD.out _ (by repeat (first | assumption | exact Below.refl _ _ | (refine Below.alloc ?_ (by first | (simp; done) | (simp; omega)) _)))).more (by first | exact Nat.le_refl _ | (simp; done) | (simp; omega))) (by intro u hu; simp [ints] at hu; obtain ⟨z, _, rfl⟩ := hu; rfl) (by unfold maxLen; omega) (by omega) (by first | (simp; done) | (simp; omega)) ?_; intro A2 c2 w2' hown2 hgrow2 hblk2 _; (have hz2' := hgrow2.size)) | (at_builtin; go_loud (refine wpList_app _ rfl _ _ 22 rfl v2.heap.size 3 i0 (.int .i64 0) 1 8 Tryd.underlying22 hi0 hzz0 hzs0 hzb0 rfl (by decide) _ _ _ ([] ++ ints p) rfl (by (rw [Nat.zero_add] at hown2; exact hown2.alloc _)) _ 1 _ [.int .i64 (20000 + x')] rfl (Rd.new (by simp) rfl) (by intro u hu; simp at hu; subst hu; rfl) (by unfold maxLen; omega) (by omega) (by first | (simp; done) | (simp; omega)) ?_); intro A3 c3 w3' hown3 hgrow3 hblk3 _))
        go_meet
        case rel => exact ⟨_, _, _, rfl, Box.behind rfl hgrow2 hown2 hown3 hgrow3⟩
      case rest =>
      obtain ⟨b3, E3, e3, rfl, hbx3, hb3⟩ := hcut
      obtain ⟨v3, rfl⟩ : ∃ v, v = wc := ⟨_, rfl⟩
      have T3 := Lib.hid hbx3
      have hc3 := hc2.trans (hb3.mono (by simpa using hbz2))
      have C3 := Lib.hid hc3
      have hbz3 : w2.heap.size + 1 ≤ v3.heap.size := by have := hc3.size; simpa using this
      clear m2 m3 m4 hc2
      have m2 : v3.cell? ⟨w2.heap.size, 2, none⟩ = some (.slice A0 p.length d0) := (X0.out.call hc3).at_.2.2
      have m3 := World.new_ne v3 _ m2
      have m4 : w2.heap.size < v3.heap.size := by omega
      have D3 := Lib.hid hb3
      clear hb3 hbx3
      go_upto_region 15 with fail
      go_cut [15] (fun s wx => ∃ (b : Nat) (A : Option Addr) (c : Nat), s = .pointer (some ⟨b, 0, none⟩) ∧ Box wx b ⟨2, 0, p ++ [(20000 + y')]⟩ A c ∧ Below v3.heap.size v3 wx)
      case first =>
        go_wp2_with (first | (at_builtin; refine wpList_app _ rfl _ _ 22 rfl v3.heap.size 3 i0 (.int .i64 0) 1 8 Tryd.underlying22 hi0 hzz0 hzs0 hzb0 rfl (by decide) _ _ _ [] rfl (by exact Own.nil _ _ _ _) _ p.length _ (ints p) rfl ((HRD.out _ (by repeat (first | assumption | exact Below.refl _ _ | (refine Below.alloc ?_ (by first | (simp; done) | (simp; omega)) _)))).more (by first | exact Nat.le_refl _ | (simp; done) | (simp; omega))) (by intro u hu; simp [ints] at hu; obtain ⟨z, _, rfl⟩ := hu; rfl) (by unfold maxLen; omega) (by omega) (by first | (simp; done) | (simp; omega)) ?_; intro A2 c2 w2' hown2 hgrow2 hblk2 _; (have hz2' := hgrow2.size)) | (at_builtin; go_loud (refine wpList_app _ rfl _ _ 22 rfl v3.heap.size 3 i0 (.int .i64 0) 1 8 Tryd.underlying22 hi0 hzz0 hzs0 hzb0 rfl (by decide) _ _ _ ([] ++ ints p) rfl (by (rw [Nat.zero_add] at hown2; exact hown2.alloc _)) _ 1 _ [.int .i64 (20000 + y')] rfl (Rd.new (by simp) rfl) (by intro u hu; simp at hu; subst hu; rfl) (by unfold maxLen; omega) (by omega) (by first | (simp; done) | (simp; omega)) ?_); intro A3 c3 w3' hown3 hgrow3 hblk3 _))
        go_meet
        case rel => exact ⟨_, _, _, rfl, Box.behind rfl hgrow2 hown2 hown3 hgrow3⟩
      case rest =>
      obtain ⟨b4, E4, e4, rfl, hbx4, hb4⟩ := hcut
      obtain ⟨v4, rfl⟩ : ∃ v, v = wc := ⟨_, rfl⟩
      have hb3 := D3.out
      have hc4 := hc3.trans (hb4.mono (by simpa using hbz3))
      have C4 := Lib.hid (B3.out.trans (hc4.mono B3.out.size))
      have h34 := hb3.trans (hb4.mono hb3.size)
      have h24 := D2.out.trans (h34.mono D2.out.size)
      have Z0 := Lib.hid (X0.out.call hc4)
      have Z1 := Lib.hid (T1.out.call h24)
      have Z2 := Lib.hid (T2.out.call h34)
      have Z3 := Lib.hid (T3.out.call hb4)
      have Z4 := Lib.hid hbx4
      clear h34 h24 hb3 hb4 hc3 hc4 hbx4 m2 m3 m4
      have HL := Lib.hid (show (20000 + x') ∉ p from fun h => (HALL'.out _ h).1 rfl)
      have HRT := Lib.hid (right_cons HPO.out hl10 (show 1 ≤ 20000 + x' ∧ 20000 + x' ≤ 65535 by omega) HL.out)
      have HX : Hid (∀ wy, Below v4.heap.size v4 wy → (wy.cell? ⟨w2.heap.size, 0, none⟩ = some (.int .i64 2) ∧ wy.cell? ⟨w2.heap.size, 1, none⟩ = some (.int .i64 0) ∧ wy.cell? ⟨w2.heap.size, 2, none⟩ = some (.slice A0 p.length d0)) ∧ (wy.cell? ⟨b1, 0, none⟩ = some (.int .i64 2) ∧ wy.cell? ⟨b1, 1, none⟩ = some (.int .i64 0) ∧ wy.cell? ⟨b1, 2, none⟩ = some (.slice E1 (p.length + 1) e1)) ∧ (wy.cell? ⟨b2, 0, none⟩ = some (.int .i64 2) ∧ wy.cell? ⟨b2, 1, none⟩ = some (.int .i64 0) ∧ wy.cell? ⟨b2, 2, none⟩ = some (.slice E2 (p.length + 1) e2)) ∧ (wy.cell? ⟨b3, 0, none⟩ = some (.int .i64 2) ∧ wy.cell? ⟨b3, 1, none⟩ = some (.int .i64 0) ∧ wy.cell? ⟨b3, 2, none⟩ = some (.slice E3 (p.length + 1) e3)) ∧ (wy.cell? ⟨b4, 0, none⟩ = some (.int .i64 2) ∧ wy.cell? ⟨b4, 1, none⟩ = some (.int .i64 0) ∧ wy.cell? ⟨b4, 2, none⟩ = some (.slice E4 (p.length + 1) e4))) := Lib.hid (fun wy hb => by
        have h := And.intro (Z0.out.call hb).at_ (And.intro (Z1.out.call hb).at_ (And.intro (Z2.out.call hb).at_ (And.intro (Z3.out.call hb).at_ (Z4.out.call hb).at_)))
        simp only [rtV, List.length_append, List.length_cons, List.length_nil, Nat.zero_add] at h
        exact h)
      have P1 : Hid (∀ wy, Below v4.heap.size v4 wy → Calls Tryd.prog 21 #[.agg #[.int .i64 2, .int .i64 0, .slice E1 (p.length + 1) e1], .agg #[.int .i64 2, .int .i64 0, .slice E2 (p.length + 1) e2]] wy fun e w' => e = .returned (.bool (decide (20000 + x' < 20000 + y'))) ∧ Below wy.heap.size wy w') := Lib.hid (fun wy hb => by
        have h := (better_rt ⟨2, 0, ((20000 + x') :: p)⟩ ⟨2, 0, ((20000 + y') :: p)⟩ _ _ _ _ wy (Z1.out.call hb).rt (Z2.out.call hb).rt)
        rw [better_paths (by simp) _ _ (lexI_head _ _ _)] at h
        simp only [rtV, List.length_append, List.length_cons, List.length_nil, Nat.zero_add] at h
        exact h)
      have P2 : Hid (∀ wy, Below v4.heap.size v4 wy → Calls Tryd.prog 21 #[.agg #[.int .i64 2, .int .i64 0, .slice E3 (p.length + 1) e3], .agg #[.int .i64 2, .int .i64 0, .slice E4 (p.length + 1) e4]] wy fun e w' => e = .returned (.bool (decide (20000 + x' < 20000 + y'))) ∧ Below wy.heap.size wy w') := Lib.hid (fun wy hb => by
        have h := (better_rt ⟨2, 0, (p ++ [20000 + x'])⟩ ⟨2, 0, (p ++ [20000 + y'])⟩ _ _ _ _ wy (Z3.out.call hb).rt (Z4.out.call hb).rt)
        rw [better_paths (by simp) _ _ (lexI_last _ _ _)] at h
        simp only [rtV, List.length_append, List.length_cons, List.length_nil, Nat.zero_add] at h
        exact h)
      have P3 : Hid (∀ wy, Below v4.heap.size v4 wy → Calls Tryd.prog 21 #[.agg #[.int .i64 2, .int .i64 0, .slice A0 p.length d0], .agg #[.int .i64 2, .int .i64 0, .slice E1 (p.length + 1) e1]] wy fun e w' => e = .returned (.bool true) ∧ Below wy.heap.size wy w') := Lib.hid (fun wy hb => by
        have h := (better_rt ⟨2, 0, p⟩ ⟨2, 0, ((20000 + x') :: p)⟩ _ _ _ _ wy (Z0.out.call hb).rt (Z1.out.call hb).rt)
        rw [better_shorter (by simp)] at h
        simp only [rtV, List.length_append, List.length_cons, List.length_nil, Nat.zero_add] at h
        exact h)
      have P4 : Hid (∀ wy, Below v4.heap.size v4 wy → Calls Tryd.prog 12 #[.agg #[.int .i64 2, .int .i64 0, .slice E1 (p.length + 1) e1]] wy fun e w' => e = .returned (.bool true) ∧ Below wy.heap.size wy w') := Lib.hid (fun wy hb => by
        have h := (right_rt ⟨2, 0, ((20000 + x') :: p)⟩ _ _ wy (Z1.out.call hb).rt)
        rw [HRT.out.1] at h
        simp only [rtV, List.length_append, List.length_cons, List.length_nil, Nat.zero_add] at h
        exact h)
      have P5 : Hid (∀ wy, Below v4.heap.size v4 wy → Calls Tryd.prog 12 #[.agg #[.int .i64 2, .int .i64 0, .slice E3 (p.length + 1) e3]] wy fun e w' => e = .returned (.bool true) ∧ Below wy.heap.size wy w') := Lib.hid (fun wy hb => by
        have h := (right_rt ⟨2, 0, (p ++ [20000 + x'])⟩ _ _ wy (Z3.out.call hb).rt)
        rw [HRT.out.2] at h
        simp only [rtV, List.length_append, List.length_cons, List.length_nil, Nat.zero_add] at h
        exact h)
      have HB0 := Below.refl v4.heap.size v4
      by_cases hxy : 20000 + x' < 20000 + y'
      all_goals
        obtain ⟨⟨g00, g01, g02⟩, ⟨g10, g11, g12⟩, ⟨g20, g21, g22⟩, ⟨g30, g31, g32⟩, ⟨g40, g41, g42⟩⟩ := HX.out _ HB0
        go_wp2_with fail
        refine (P1.out _ HB0).mono ?_
        rintro e u1x ⟨rfl, hq⟩
        have HB1 := since_trans HB0 hq
        clear hq g00 g01 g02 g10 g11 g12 g20 g21 g22 g30 g31 g32 g40 g41 g42
        obtain ⟨⟨g00, g01, g02⟩, ⟨g10, g11, g12⟩, ⟨g20, g21, g22⟩, ⟨g30, g31, g32⟩, ⟨g40, g41, g42⟩⟩ := HX.out _ HB1
        go_wp2_with fail
        refine (P2.out _ HB1).mono ?_
        rintro e u2x ⟨rfl, hq⟩
        have HB2 := since_trans HB1 hq
        clear hq g00 g01 g02 g10 g11 g12 g20 g21 g22 g30 g31 g32 g40 g41 g42
        obtain ⟨⟨g00, g01, g02⟩, ⟨g10, g11, g12⟩, ⟨g20, g21, g22⟩, ⟨g30, g31, g32⟩, ⟨g40, g41, g42⟩⟩ := HX.out _ HB2
        go_wp2_with fail
        refine (P3.out _ HB2).mono ?_
        rintro e u3x ⟨rfl, hq⟩
        have HB3 := since_trans HB2 hq
        clear hq g00 g01 g02 g10 g11 g12 g20 g21 g22 g30 g31 g32 g40 g41 g42
        obtain ⟨⟨g00, g01, g02⟩, ⟨g10, g11, g12⟩, ⟨g20, g21, g22⟩, ⟨g30, g31, g32⟩, ⟨g40, g41, g42⟩⟩ := HX.out _ HB3
        go_wp2_with fail
        refine (P4.out _ HB3).mono ?_
        rintro e u4x ⟨rfl, hq⟩
        have HB4 := since_trans HB3 hq
        clear hq g00 g01 g02 g10 g11 g12 g20 g21 g22 g30 g31 g32 g40 g41 g42
        obtain ⟨⟨g00, g01, g02⟩, ⟨g10, g11, g12⟩, ⟨g20, g21, g22⟩, ⟨g30, g31, g32⟩, ⟨g40, g41, g42⟩⟩ := HX.out _ HB4
        go_wp2_with fail
        refine (P5.out _ HB4).mono ?_
        rintro e u5x ⟨rfl, hq⟩
        have HB5 := since_trans HB4 hq
        clear hq g00 g01 g02 g10 g11 g12 g20 g21 g22 g30 g31 g32 g40 g41 g42
        go_wp2
        go_ret
        exact ⟨rfl, since_trans C4.out HB5⟩
end Go.Proofs.YtmioaanbehacgaaDoor

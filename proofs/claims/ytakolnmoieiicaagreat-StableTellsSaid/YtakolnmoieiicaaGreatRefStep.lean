/- Where the document's Step goes over a link. No program is walked here. The document's Step at a network that may be and routes that fit. The document's Is at a network that may be, a destination that is, and routes that fit. -/
import Derived.Test.YtakolnmoieiicaaGreatRef5o
import Derived.Test.YtakolnmoieiicaaGreatRef5p
import Derived.Test.YtakolnmoieiicaaGreatRef7v
import Derived.Test.YtakolnmoieiicaaGreatBadS
import Derived.Test.YtakolnmoieiicaaGreatRoundV
import Derived.Test.YtakolnmoieiicaaGreatRef6
namespace Go.Proofs.YtakolnmoieiicaaGreat
set_option linter.unusedSimpArgs false
set_option linter.unusedVariables false
open Go.RowKit

section
theorem ar_yes {p : Net} {f : Int} {k m : Nat} (g : Good p) (ha : isAr p.links f k m = true) : m < p.links.length ∧ upB p f m = true ∧ ∃ u : Nat, rothB p m k = u ∧ othL p.links m k = u ∧ u < p.nodes.length := by
  cases hx : p.links[m]? with
  | none => simp [isAr, hx] at ha
  | some x =>
    have hm : m < p.links.length := (List.getElem?_eq_some_iff.1 hx).1
    obtain ⟨u, hu, huN, -⟩ := ar_oth g.lksOk hx ha
    have ho : othL p.links m k = u := by unfold othL; simp [hx, hu]
    refine ⟨hm, ?_, u, by rw [roth_eq, if_pos g.right, ho], ho, huN⟩
    have h2 := ha
    simp only [isAr, hx, Bool.and_eq_true, Bool.not_eq_true'] at h2
    unfold upB
    simp [hm, h2.1]
theorem ar_no {p : Net} {f : Int} {k m : Nat} (g : Good p) (hm : m < p.links.length) (ha : isAr p.links f k m = false) : upB p f m = false ∨ rothB p m k < 0 := by
  have hx : p.links[m]? = some p.links[m] := List.getElem?_eq_getElem hm
  rw [roth_eq, if_pos g.right]
  simp only [isAr, hx] at ha
  cases hh : hasB f m with
  | true => left; unfold upB; simp [hh]
  | false =>
    right
    rw [hh] at ha
    unfold othL othV
    simp [hx]
    simp at ha
    rw [if_neg (by omega), if_neg (by omega)]
    decide
end

section
attribute [local go_sem ↓] Go.wp_at_zero Go.wp_at_succ
set_option maxRecDepth 100000 in
set_option maxHeartbeats 4000000 in
theorem rstep_any (p : Net) (h : Hd) (f d : Int) (l : St) (Z : List RtZ) (A : Option Addr) (c : Nat) (w : World) (hp : NetR w w.heap.size p h) (hg : Good p) (hd : placeB d p.dests.length = true) (hl : RtsR w w.heap.size Z A) (hZ : Z.map (·.1) = stL p l) (hf : FitsF p l) :
    Calls Tryz.prog 24 #[netV p h, .int .i64 f, .int .i64 d, .slice A Z.length c] w (StsPost w (stL p (stepF p f d l))) := by
  have PX := Lib.hid (AtRight.begin hp)
  have HG := Lib.hid hg
  have HL := Lib.hid ((hl.alloc (Nat.le_refl _) (.cells (netCells p h) 30)).more (B' := (w.alloc (.cells (netCells p h) 30)).heap.size) (by rw [World.size_alloc]; exact Nat.le_succ _))
  have HZ := Lib.hid hZ
  have HF := Lib.hid hf
  have hn12 := hg.n12.2
  have HQ : Hid (FitsQ p (Z.map (·.1))) := Lib.hid (by rw [hZ]; exact FitsQ.of hg.right hf)
  have HZl : Hid (Z.length = p.nodes.length) := Lib.hid (by have := congrArg List.length hZ; rw [List.length_map, stL_len] at this; exact this)
  have hZ12 : Z.length ≤ 12 := by have := HZl.out; omega
  have hd' : 0 ≤ d ∧ d < p.dests.length := by unfold placeB at hd; simpa using hd
  obtain ⟨d, rfl⟩ : ∃ k : Nat, d = k := ⟨d.toNat, by omega⟩
  have hd0' : decide ((d : Int) < 0) = false := decide_eq_false (by omega)
  have hd1' : decide ((p.dests.length : Int) ≤ (d : Int)) = false := decide_eq_false (by omega)
  have hd1'' : decide (p.dests.length ≤ d) = false := decide_eq_false (by omega)
  obtain ⟨i3, hi3, hz3, hs3, hb3⟩ := info_parts Tryz.info_rt
  clear hp hg hd hl hZ hf hd'
  unfold netV netVal
  go_enter Tryz.func24, Tryz.ntmps24
  go_wp2_with fail
  refine (rfits9_any p h Z A c _ PX.out.net HG.out.small HL.out).mono ?_
  rintro e w1 ⟨b, rfl, hbq, hb1⟩
  have hbt : b = true := hbq.2 HQ.out
  subst hbt
  have P1 := Lib.hid (PX.out.call hb1)
  have L1 := Lib.hid (HL.out.call hb1)
  obtain ⟨c0, c1, c2, c3, c4, c5, c6⟩ := P1.out.all
  clear hb1 hbq PX HL
  go_wp2_with fail
  go_loopw [10, 11] (fun sl si wx => ∃ (k : Nat) (L : List RtZ) (A : Option Addr) (c : Nat), k ≤ p.nodes.length ∧ L.length = k ∧ si = .int .i64 k ∧ sl = .slice A L.length c ∧ L.map (·.1) = (List.range k).map (stepF p f d l) ∧ LW w1 wx L A c) (fun _ si _ => p.nodes.length - (intOf si).toNat)
  case atStart => exact ⟨0, [], none, 0, Nat.zero_le _, rfl, rfl, rfl, rfl, LW.begin (Below.refl _ _)⟩
  case round =>
    obtain ⟨k, L, A', c', hk, hLk, rfl, rfl, hmap, hL⟩ := hrel
    have LX := Lib.hid hL
    have MX := Lib.hid hmap
    have HLk := Lib.hid hLk
    have hL12 : L.length ≤ 12 := by omega
    have P2 := Lib.hid (P1.out.call hL.below)
    clear hL hmap hLk c0 c1 c2 c3 c4 c5 c6
    obtain ⟨c0, c1, c2, c3, c4, c5, c6⟩ := P2.out.all
    by_cases hlt : k < p.nodes.length
    · go_wp2_with fail
      refine (rown_any p h d k _ P2.out.net HG.out.small).mono ?_
      rintro e w4 ⟨rfl, hb4⟩
      rw [rown_good HG.out.right]
      have L4 := Lib.hid (LX.out.call hb4)
      have HO := Lib.hid (show (ownR p d (k : Int)).path = [] from by unfold ownR rtOwn; split <;> (try split) <;> rfl)
      generalize hoo : ownR p d k = oo at *
      have P4 := Lib.hid (P2.out.call hb4)
      have M4 := Lib.hid (LW.one (Below.refl w4.heap.size w4) (z := (oo, (none, 0))) (B := w4.heap.size) (.inr ⟨HO.out, Nat.zero_le _⟩) (Nat.le_refl _))
      clear hb4 c0 c1 c2 c3 c4 c5 c6
      unfold rtV
      go_upto_region 9 with fail
      have P5 := Lib.hid (P4.out.call ((Below.refl _ _).alloc (Nat.le_refl _) (.cells #[.int .i64 oo.kind, .int .i64 oo.cost, .slice none oo.path.length 0] 48)))
      generalize hv4 : (w4.alloc (.cells #[.int .i64 oo.kind, .int .i64 oo.cost, .slice none oo.path.length 0] 48)) = v4
      have M5 : Hid (LW w4 v4 [((oo, (none, 0)) : RtZ)] (some ⟨w4.heap.size, 0, none⟩) 1) := Lib.hid (by rw [← hv4]; exact M4.out)
      rw [hv4] at P5
      clear hv4 M4
      go_cut [13] from 13 to 13 (fun s wx => s = .int .i64 0 ∧ wx = v4)
      case first =>
        go_wp2_with fail
        go_meet
        case rel => exact ⟨rfl, rfl⟩
      case rest =>
      obtain ⟨rfl, hwc⟩ := hcut
      rw [hwc]
      clear hwc wc
      rename_i hKl
      refine hKl _ _ ?_
      clear hKl
      go_cut [12] (fun s wx => ∃ (M : List RtZ) (A : Option Addr) (c : Nat), s = .slice A M.length c ∧ M.length ≤ 17 ∧ M.map (·.1) = candF p f d l k ∧ LW w4 wx M A c)
      case first =>
        go_wp2_with fail
        go_loopw [12, 13] (fun sl si wx => ∃ (m : Nat) (M : List RtZ) (A : Option Addr) (c : Nat), m ≤ p.links.length ∧ M.length ≤ m + 1 ∧ si = .int .i64 m ∧ sl = .slice A M.length c ∧ M.map (·.1) = oo :: (arL p.links f k m).map (fun (q : Nat) => overR p q k (l (othL p.links q k).toNat)) ∧ LW w4 wx M A c) (fun _ si _ => p.links.length - (intOf si).toNat)
        case atStart => exact ⟨0, _, _, _, Nat.zero_le _, by simp, rfl, rfl, rfl, M5.out⟩
        case round =>
          obtain ⟨m, M, A5, c5, hm, hMl, rfl, rfl, hMm, hM⟩ := hrel
          have MY := Lib.hid hM
          have MM := Lib.hid hMm
          have P6 := Lib.hid (P4.out.call hM.below)
          obtain ⟨c0, c1, c2, c3, c4, c5', c6⟩ := P6.out.all
          have hl16 := HG.out.l16
          clear hM hMm M5
          by_cases hlt : m < p.links.length
          · go_wp2_with fail
            refine (rother_any p h m k _ P6.out.net HG.out.small).mono ?_
            rintro e w6 ⟨rfl, hb6⟩
            have P7 := Lib.hid (P6.out.call hb6)
            have M7 := Lib.hid (MY.out.call hb6)
            clear hb6 c0 c1 c2 c3 c4 c5' c6
            obtain ⟨c0, c1, c2, c3, c4, c5', c6⟩ := P7.out.all
            go_wp2_with fail
            refine (rup_any p h f m _ P7.out.net).mono ?_
            rintro e w7 ⟨rfl, hb7⟩
            have P8 := Lib.hid (P7.out.call hb7)
            have M8 := Lib.hid (M7.out.call hb7)
            have HK := Lib.hid hlt
            clear hb7 c0 c1 c2 c3 c4 c5' c6
            cases ha : isAr p.links f k m with
            | false =>
              have HMM := Lib.hid (show M.map (·.1) = oo :: (arL p.links f k (m + 1)).map (fun (q : Nat) => overR p q k (l (othL p.links q k).toNat)) from by rw [arL_miss ha]; exact MM.out)
              have hno := ar_no HG.out hlt ha
              cases hu : upB p f m with
              | false =>
                clear hu hno ha
                go_wp2_with fail
                go_roundw
                case rel => exact ⟨m + 1, M, A5, c5, by have := HK.out; omega, by omega, by go_num, rfl, HMM.out, M8.out⟩
                case measure => have := HK.out; simp [intOf]; omega
              | true =>
                have hr0 : rothB p m k < 0 := hno.resolve_left (by rw [hu]; decide)
                clear hu hno ha
                generalize rothB p m k = ro at *
                go_wp2_with fail
                go_roundw
                case rel => exact ⟨m + 1, M, A5, c5, by have := HK.out; omega, by omega, by go_num, rfl, HMM.out, M8.out⟩
                case measure => have := HK.out; simp [intOf]; omega
            | true =>
              obtain ⟨-, hu, u, hru, hou, huN⟩ := ar_yes HG.out ha
              obtain ⟨z, hz⟩ : ∃ z, Z[u]? = some z := ⟨_, List.getElem?_eq_getElem (by have := HZl.out; omega)⟩
              have hzl : z.1 = l u := by
                have h1 : (Z.map (·.1))[u]? = some z.1 := by rw [List.getElem?_map, hz]; rfl
                rw [HZ.out, stL_at huN] at h1
                injection h1 with h1
                exact h1.symm
              have HMM := Lib.hid (show ∀ q, (M ++ [((overR p m k z.1, q) : RtZ)]).map (·.1) = oo :: (arL p.links f k (m + 1)).map (fun (q : Nat) => overR p q k (l (othL p.links q k).toNat)) from fun q => by
                rw [List.map_append, MM.out, arL_hit ha, List.map_append]
                simp [hou, hzl])
              have LZ := Lib.hid ((L1.out.below L4.out.below (Nat.le_refl _)).more L4.out.below.size)
              obtain ⟨bz, oz, e, hbz, z0, z1, z2⟩ := LZ.out.at_ hz
              subst e
              have HRZ := Lib.hid (LZ.out.each z (List.mem_of_getElem? hz))
              have HC : Hid (∀ wy, Below w4.heap.size w4 wy → (wy.cell? ⟨w.heap.size, 0, none⟩ = some (.int .i64 p.proto) ∧ wy.cell? ⟨w.heap.size, 1, none⟩ = some (.int .i64 p.cap) ∧ wy.cell? ⟨w.heap.size, 2, none⟩ = some (.int .i64 p.k) ∧ wy.cell? ⟨w.heap.size, 3, none⟩ = some (.slice h.an p.nodes.length h.cn) ∧ wy.cell? ⟨w.heap.size, 4, none⟩ = some (.slice h.al p.links.length h.cl) ∧ wy.cell? ⟨w.heap.size, 5, none⟩ = some (.slice h.ad p.dests.length h.cd) ∧ wy.cell? ⟨w.heap.size, 6, none⟩ = some (.slice h.ac p.checks.length h.cc)) ∧ wy.cell? ⟨bz, oz + u * 3, none⟩ = some (.int .i64 z.1.kind) ∧ wy.cell? ⟨bz, oz + u * 3 + 1, none⟩ = some (.int .i64 z.1.cost) ∧ wy.cell? ⟨bz, oz + u * 3 + 2, none⟩ = some (.slice z.2.1 z.1.path.length z.2.2)) := Lib.hid (fun wy a => ⟨(P4.out.call a).all, (a.cell (p := ⟨bz, _, none⟩) hbz).trans z0, (a.cell (p := ⟨bz, _, none⟩) hbz).trans z1, (a.cell (p := ⟨bz, _, none⟩) hbz).trans z2⟩)
              have CV : Hid (∀ wy, LW w4 wy M A5 c5 → Calls Tryz.prog 53 #[.agg #[.int .i64 p.proto, .int .i64 p.cap, .int .i64 p.k, .slice h.an p.nodes.length h.cn, .slice h.al p.links.length h.cl, .slice h.ad p.dests.length h.cd, .slice h.ac p.checks.length h.cc], .int .i64 (m : Int), .int .i64 (k : Int), .agg #[.int .i64 z.1.kind, .int .i64 z.1.cost, .slice z.2.1 z.1.path.length z.2.2]] wy fun e w' => ∃ Ar cr, e = .returned (.agg #[.int .i64 (overR p m k z.1).kind, .int .i64 (overR p m k z.1).cost, .slice Ar (overR p m k z.1).path.length cr]) ∧ OwnOr w' w4.heap.size Ar cr (overR p m k z.1).path ∧ LW w4 w' M A5 c5) := Lib.hid (fun wy a => by
                have h1 := rover_any p h m k z.1 z.2.1 z.2.2 wy (P4.out.call a.below).net HG.out.small ((HRZ.out.below a.below (Nat.le_refl _)).more a.below.size)
                rw [over_good HG.out.right] at h1
                exact h1.mono fun e w' ⟨Ar, cr, h1, h2, h3⟩ => ⟨Ar, cr, h1, h2.more a.below.size, a.call h3⟩)
              generalize overR p m k z.1 = r2 at *
              have hu1 : (u : Int) < (Z.length : Int) := by have := HZl.out; omega
              have hu0 : (0 : Int) ≤ (u : Int) := by omega
              rw [hu, hru]
              clear hz hzl z0 z1 z2 hbz hu hru hou ha
              go_upto_region 14 with fail
              have hNd := M8.out.call (below_drew (Below.refl _ _))
              refine wp_region_held_drew (S := (fun wy => (wy.cell? ⟨w.heap.size, 0, none⟩ = some (.int .i64 p.proto) ∧ wy.cell? ⟨w.heap.size, 1, none⟩ = some (.int .i64 p.cap) ∧ wy.cell? ⟨w.heap.size, 2, none⟩ = some (.int .i64 p.k) ∧ wy.cell? ⟨w.heap.size, 3, none⟩ = some (.slice h.an p.nodes.length h.cn) ∧ wy.cell? ⟨w.heap.size, 4, none⟩ = some (.slice h.al p.links.length h.cl) ∧ wy.cell? ⟨w.heap.size, 5, none⟩ = some (.slice h.ad p.dests.length h.cd) ∧ wy.cell? ⟨w.heap.size, 6, none⟩ = some (.slice h.ac p.checks.length h.cc)) ∧ wy.cell? ⟨bz, oz + u * 3, none⟩ = some (.int .i64 z.1.kind) ∧ wy.cell? ⟨bz, oz + u * 3 + 1, none⟩ = some (.int .i64 z.1.cost) ∧ wy.cell? ⟨bz, oz + u * 3 + 2, none⟩ = some (.slice z.2.1 z.1.path.length z.2.2))) (by kernel_rfl) (HC.out _ hNd.below) (fun hHeld0 => ?_)
              refine take_list (i := 0) (v := ?_) rfl (by kernel_rfl) (by kernel_rfl) (by kernel_rfl) (fun _ _ _ h => h) (Or.inl ⟨by rfl, ?_⟩) (by assumption) ?_
              rotate_left
              · (intro w hSw; (try dsimp only at hSw); go_simp; try (with_reducible rfl))
              try simp only [Act.put, List.setIfInBounds_toArray, List.set_cons_zero, List.set_cons_succ]
              refine take_list (i := 1) (v := ?_) rfl (by kernel_rfl) (by kernel_rfl) (by kernel_rfl) (fun _ _ _ h => h) (Or.inl ⟨by rfl, ?_⟩) (by assumption) ?_
              rotate_left
              · (intro w hSw; (try dsimp only at hSw); go_simp; try (with_reducible rfl))
              try simp only [Act.put, List.setIfInBounds_toArray, List.set_cons_zero, List.set_cons_succ]
              refine take_list (i := 2) (v := ?_) rfl (by kernel_rfl) (by kernel_rfl) (by kernel_rfl) (fun _ _ _ h => h) (Or.inl ⟨by rfl, ?_⟩) (by assumption) ?_
              rotate_left
              · (intro w hSw; (try dsimp only at hSw); go_simp; try (with_reducible rfl))
              try simp only [Act.put, List.setIfInBounds_toArray, List.set_cons_zero, List.set_cons_succ]
              refine take_list (i := 3) (v := ?_) rfl (by kernel_rfl) (by kernel_rfl) (by kernel_rfl) (fun _ _ _ h => h) (Or.inl ⟨by rfl, ?_⟩) (by assumption) ?_
              rotate_left
              · (intro w hSw; (try dsimp only at hSw); go_simp; try (with_reducible rfl))
              try simp only [Act.put, List.setIfInBounds_toArray, List.set_cons_zero, List.set_cons_succ]
              refine take_list (i := 4) (v := ?_) rfl (by kernel_rfl) (by kernel_rfl) (by kernel_rfl) (fun _ _ _ h => h) (Or.inl ⟨by rfl, ?_⟩) (by assumption) ?_
              rotate_left
              · (intro w hSw; (try dsimp only at hSw); go_simp; try (with_reducible rfl))
              try simp only [Act.put, List.setIfInBounds_toArray, List.set_cons_zero, List.set_cons_succ]
              refine take_list (i := 5) (v := ?_) rfl (by kernel_rfl) (by kernel_rfl) (by kernel_rfl) (fun _ _ _ h => h) (Or.inl ⟨by rfl, ?_⟩) (by assumption) ?_
              rotate_left
              · (intro w hSw; (try dsimp only at hSw); go_simp; try (with_reducible rfl))
              try simp only [Act.put, List.setIfInBounds_toArray, List.set_cons_zero, List.set_cons_succ]
              refine take_list (i := 6) (v := ?_) rfl (by kernel_rfl) (by kernel_rfl) (by kernel_rfl) (fun _ _ _ h => h) (Or.inl ⟨by rfl, ?_⟩) (by assumption) ?_
              rotate_left
              · (intro w hSw; (try dsimp only at hSw); go_simp; try (with_reducible rfl))
              try simp only [Act.put, List.setIfInBounds_toArray, List.set_cons_zero, List.set_cons_succ]
              refine take_list (i := 7) (v := ?_) rfl (by kernel_rfl) (by kernel_rfl) (by kernel_rfl) (fun _ _ _ h => h) (Or.inl ⟨by rfl, ?_⟩) (by assumption) ?_
              rotate_left
              · (intro w hSw; (try dsimp only at hSw); go_simp; try (with_reducible rfl))
              try simp only [Act.put, List.setIfInBounds_toArray, List.set_cons_zero, List.set_cons_succ]
              refine wpAnyH_ready (rs := [8]) (by kernel_rfl) (by simp) ?_
              refine cons_list rfl (fun K hK => ?_) AllReadyH.nil
              go_simp
              (go_at_call 53; refine (CV.out _ hNd).mono ?_; rintro e wn ⟨Ar, cr, rfl, ho5, hN7⟩; have hN8 := hN7.alloc (.cells #[.int .i64 r2.kind, .int .i64 r2.cost, .slice Ar r2.path.length cr] 48))
              refine hK.out _ _ (HC.out _ (by first | exact hN9.below | exact hN8.below | exact hN7.below | exact hNd.below)) (fun hHeld1 => ?_)
              clear hK K hHeld0
              try simp only [Act.put, List.setIfInBounds_toArray, List.set_cons_zero, List.set_cons_succ]
              refine wpAnyH_ready (rs := [9]) (by kernel_rfl) (by simp) ?_
              refine cons_list rfl (fun K hK => ?_) AllReadyH.nil
              go_simp
              refine hK.out _ _ (HC.out _ (by first | exact hN9.below | exact hN8.below | exact hN7.below | exact hNd.below)) (fun hHeld2 => ?_)
              clear hK K hHeld1
              try simp only [Act.put, List.setIfInBounds_toArray, List.set_cons_zero, List.set_cons_succ]
              refine wpAnyH_ready (rs := [10]) (by kernel_rfl) (by simp) ?_
              refine cons_list rfl (fun K hK => ?_) AllReadyH.nil
              (refine step_app _ (by rfl) _ _ 37 (by rfl) w4.heap.size 48 i3 _ 3 40 Tryz.underlying37 hi3 hz3 hs3 hb3 rfl (by decide) _ _ _ (M.flatMap rtCells) (by rfl) hN8.row _ 1 _ (rtCells ((r2, (Ar, cr)) : RtZ)) (by rfl) (Rd.new (by simp) rfl) (by intro x hx; simp [rtCells] at hx; rcases hx with rfl | rfl | rfl <;> rfl) (by unfold maxLen; omega) (by omega) (by have := hN7.below.size; simp; omega) ?_; intro A2 c2 w5 hown2 hgrow2 hblk2 _; have hN9 := hN8.app (z := ((r2, (Ar, cr)) : RtZ)) (Nat.le_refl _) (ho5.alloc _) (by rfl) hgrow2 hown2)
              refine hK.out _ _ (HC.out _ (by first | exact hN9.below | exact hN8.below | exact hN7.below | exact hNd.below)) (fun hHeld3 => ?_)
              clear hK K hHeld2
              try simp only [Act.put, List.setIfInBounds_toArray, List.set_cons_zero, List.set_cons_succ]
              refine take_list (i := 11) (v := ?_) rfl (by kernel_rfl) (by kernel_rfl) (by kernel_rfl) (fun _ _ _ h => h) (Or.inl ⟨by rfl, ?_⟩) (by assumption) ?_
              rotate_left
              · (intro w hSw; (try dsimp only at hSw); go_simp; try (with_reducible rfl))
              try simp only [Act.put, List.setIfInBounds_toArray, List.set_cons_zero, List.set_cons_succ]
              refine wpAnyH_done (by kernel_rfl) ?_ _
              clear hHeld3
              have N9 := Lib.hid hN9
              clear hN7 hN8 hN9 hNd hown2 hgrow2 hblk2 ho5
              go_wp2_with fail
              go_roundw
              case rel => exact ⟨m + 1, _, A2, c2, by have := HK.out; omega, by simp; omega, by go_num, by simp, HMM.out _, N9.out⟩
              case measure => have := HK.out; simp [intOf]; omega
          · have hml : m = p.links.length := by omega
            have HE := Lib.hid (show M.map (·.1) = candF p f d l k from by rw [MM.out, hml, ← hoo]; rfl)
            clear hml
            go_wp2_with fail
            go_meet
            case rel => exact ⟨M, A5, c5, rfl, by omega, HE.out, MY.out⟩
      case rest =>
      obtain ⟨M, A5, c5, rfl, hM17, hMm, hM⟩ := hcut
      have MY := Lib.hid hM
      have LB := Lib.hid (L4.out.call hM.below)
      have HKO : Hid (∀ x ∈ M, KindOk x.1) := Lib.hid (fun x hx => by
        have h1 : x.1 ∈ M.map (·.1) := List.mem_map.2 ⟨x, hx, rfl⟩
        rw [hMm] at h1
        rcases List.mem_cons.1 h1 with e | h1
        · rw [e]; exact (holds_ownR HG.out.netG d k 0).1.kind
        · obtain ⟨q, -, e⟩ := List.mem_map.1 h1
          rw [← e]; exact (holds_over p q k (l (othL p.links q k).toNat)).1.kind)
      have HBE : Hid ((rbestL M).1 = stepF p f d l k) := Lib.hid (by rw [rbestL_fst HKO.out, hMm]; rfl)
      have HOW : Hid (OwnOr wc w4.heap.size (rbestL M).2.1 (rbestL M).2.2 (rbestL M).1.path) := Lib.hid (by
        rcases rbestL_mem M with e | e
        · rw [e]; exact OwnOr.nil
        · exact hM.each _ e)
      clear hM hMm
      go_wp2_with fail
      refine (refBest_any M A5 c5 _ MY.out.rts (by omega)).mono ?_
      rintro e w8 ⟨rfl, hb8⟩
      have L8 := Lib.hid (LB.out.call hb8)
      have O8 := Lib.hid (HOW.out.call hb8)
      have hsz : w1.heap.size ≤ w4.heap.size := L4.out.below.size
      clear hb8 HOW LB MY HKO
      generalize rbestL M = zb at *
      have HM9 := Lib.hid (show (L ++ [zb]).map (·.1) = (List.range (k + 1)).map (stepF p f d l) from by rw [List.map_append, MX.out, range_snoc, List.map_cons, HBE.out]; rfl)
      go_wp2_with ((at_builtin; go_loud (refine wpList_app _ rfl _ _ 37 rfl (w1.heap.size) 48 i3 _ 3 40 Tryz.underlying37 hi3 hz3 hs3 hb3 rfl (by decide) _ _ _ (L.flatMap rtCells) rfl (L8.out.alloc _).row _ 1 _ (rtCells zb) rfl (Rd.new (by simp) rfl) ?h1 ?h63 ?hby ?hB ?_); go_loud (case h1 => intro u hu; simp [rtCells] at hu; rcases hu with rfl | rfl | rfl <;> rfl); go_loud (case h63 => unfold maxLen; omega); go_loud (case hby => omega); go_loud (case hB => have := L8.out.below.size; simp; omega); intro A2 c2 w5 hown2 hgrow2 hblk2 _; go_loud (have L9 := Lib.hid (LW.app (z := zb) (L8.out.alloc _) hsz (O8.out.alloc _) (by rfl) hgrow2 hown2))); clear hown2 hgrow2 hblk2)
      go_roundw
      case rel => exact ⟨k + 1, _, A2, c2, by omega, by have := HLk.out; simp; omega, by go_num, by simp, HM9.out, L9.out⟩
      case measure => simp [intOf]; omega
    · have hkN : k = p.nodes.length := by omega
      have HF : Hid (StsPost w (stL p (stepF p f d l)) (.returned (.slice A' L.length c')) wr) := Lib.hid ⟨L, A', c', rfl, by rw [MX.out, hkN]; rfl, LX.out.since P1.out.below⟩
      clear hkN
      go_wp2
      go_ret
      exact HF.out
end

section
set_option maxRecDepth 100000 in
set_option maxHeartbeats 2000000 in
theorem ris_any (p : Net) (h : Hd) (f d : Int) (l : St) (Z : List RtZ) (A : Option Addr) (c : Nat) (w : World) (hp : NetR w w.heap.size p h) (hg : Good p) (hd : placeB d p.dests.length = true) (hl : RtsR w w.heap.size Z A) (hZ : Z.map (·.1) = stL p l) (hf : FitsF p l) :
    Calls Tryz.prog 15 #[netV p h, .int .i64 f, .int .i64 d, .slice A Z.length c] w fun e w' => e = .returned (.bool (decide (stL p (stepF p f d l) = stL p l))) ∧ Below w.heap.size w w' := by
  have HA := Lib.hid (AtRight.begin hp)
  have HG := Lib.hid hg
  have HD := Lib.hid hd
  have HL := Lib.hid ((hl.alloc (Nat.le_refl _) (.cells (netCells p h) 30)).more (B' := (w.alloc (.cells (netCells p h) 30)).heap.size) (by rw [World.size_alloc]; exact Nat.le_succ _))
  have HZ := Lib.hid hZ
  have HF := Lib.hid hf
  have hn12 := hg.n12
  have HQ : Hid (FitsQ p (Z.map (·.1))) := Lib.hid (by rw [hZ]; exact FitsQ.of hg.right hf)
  have HZl : Hid (Z.length = p.nodes.length) := Lib.hid (by have := congrArg List.length hZ; rw [List.length_map, stL_len] at this; exact this)
  have hZ12 : Z.length ≤ 12 := by have := HZl.out; omega
  have hd' : 0 ≤ d ∧ d < p.dests.length := by unfold placeB at hd; simpa using hd
  obtain ⟨hd0, hd1⟩ := hd'
  clear hp hg hd hl hZ hf
  unfold netV netVal
  go_enter Tryz.func15, Tryz.ntmps15
  go_wp2_with fail
  refine (rfits9_any p h Z A c _ HA.out.net HG.out.small HL.out).mono ?_
  rintro e w1 ⟨b, rfl, hbq, hb1⟩
  have hbt : b = true := hbq.2 HQ.out
  subst hbt
  have HA1 := Lib.hid (HA.out.call hb1)
  have L1 := Lib.hid (HL.out.call hb1)
  obtain ⟨c0, c1, c2, c3, c4, c5, c6⟩ := HA1.out.all
  clear hb1 hbq
  go_wp2_with fail
  refine (rstep_any p h f d l Z A c _ HA1.out.net HG.out HD.out L1.out HZ.out HF.out).mono ?_
  rintro e w2 ⟨Y, A1, c1', rfl, hY, hLW⟩
  have HA2 := Lib.hid (HA1.out.call hLW.below)
  have HY := Lib.hid hY
  have LY := Lib.hid hLW
  have L2 := Lib.hid (L1.out.call hLW.below)
  have hY12 : Y.length ≤ 12 := by have := congrArg List.length hY; rw [List.length_map, stL_len] at this; omega
  clear hY hLW c0 c1 c2 c3 c4 c5 c6
  go_wp2_with fail
  refine (refSame9_any Y Z A1 A c1' c _ LY.out.rts L2.out (by omega) (by omega)).mono ?_
  rintro e w3 ⟨rfl, hb3⟩
  rw [HZ.out, HY.out]
  have HA3 := Lib.hid (HA2.out.call hb3)
  clear hb3
  go_wp2
  go_ret
  exact ⟨rfl, HA3.out.below⟩
end
end Go.Proofs.YtakolnmoieiicaaGreat

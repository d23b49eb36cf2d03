/- The walk of backstaylaw10.StableTells. -/
import Derived.Test.YtakolnmoieiicaaGreatTells
import Derived.Test.YtakolnmoieiicaaGreatWildV
import Derived.Test.YtakolnmoieiicaaGreatRef10e
import Derived.Test.YtakolnmoieiicaaGreatRefSolve
import Derived.Test.YtakolnmoieiicaaGreatHeldG
import Derived.Test.YtakolnmoieiicaaGreatLaw10
namespace Go.Proofs.YtakolnmoieiicaaGreat
set_option linter.unusedSimpArgs false
set_option linter.unusedVariables false
open Go.RowKit

theorem block_kept {wx wy : World} {b : Nat} {o : Obj} (h : wx.heap[b]? = some o) (hb : Below wx.heap.size wx wy) : wy.heap[b]? = some o := (hb.block _ (lt_heap h)).trans h
/-- Both Is answer alike. -/
theorem ises_same (p : Net) (f d : Int) (Z : List RtZ) (hs : Small p) : ∃ q : Bool, ∀ (h : Hd) (A : Option Addr) (c : Nat) (w : World), NetR w w.heap.size p h → RtsR w w.heap.size Z A →
    Calls Tryz.prog 14 #[netV p h, .int .i64 f, .int .i64 d, .slice A Z.length c] w (fun e w' => e = .returned (.bool q) ∧ Below w.heap.size w w') ∧ Calls Tryz.prog 15 #[netV p h, .int .i64 f, .int .i64 d, .slice A Z.length c] w (fun e w' => e = .returned (.bool q) ∧ Below w.heap.size w w') := by
  by_cases hq : IsQ p f d (Z.map (·.1))
  · refine ⟨true, fun h A c w hp hl => ⟨(is_gen p h f d Z A c w hp hs hl).mono ?_, (ris_gen p h f d Z A c w hp hs hl).mono ?_⟩⟩
    · rintro e w' ⟨b, rfl, -, h0, hb⟩
      cases b with
      | true => exact ⟨rfl, hb⟩
      | false =>
        obtain ⟨ht, -, l, x1, x2, x3⟩ := hq
        exact absurd ⟨l, x1, x2, ht, x3⟩ (h0 rfl)
    · rintro e w' ⟨b, rfl, -, h0, hb⟩
      cases b with
      | true => exact ⟨rfl, hb⟩
      | false =>
        obtain ⟨ht, -, l, x1, x2, x3⟩ := hq
        exact absurd ⟨l, x1, x2, ht, x3⟩ (h0 rfl)
  · refine ⟨false, fun h A c w hp hl => ⟨(is_gen p h f d Z A c w hp hs hl).mono ?_, (ris_gen p h f d Z A c w hp hs hl).mono ?_⟩⟩
    · rintro e w' ⟨b, rfl, h1, -, hb⟩
      cases b with
      | true => exact absurd (h1 rfl) hq
      | false => exact ⟨rfl, hb⟩
    · rintro e w' ⟨b, rfl, h1, -, hb⟩
      cases b with
      | true => exact absurd (h1 rfl) hq
      | false => exact ⟨rfl, hb⟩
/-- The networks' row and the raw routes. -/
structure SO (w wx : World) (bs : Nat) (p1 : Net) (h1 : Hd) (p2 : Net) (h2 : Hd) (a1 : Option Addr) (c1 : Nat) (l1 : List (List Int)) (V1 : List (Option Addr × Nat)) : Prop where
  gs : GS w wx bs p1 h1 p2 h2
  raw : RowsIn wx a1 c1 l1 V1
/-- .. a network's box. -/
structure SB (w wx : World) (bs : Nat) (p1 : Net) (h1 : Hd) (p2 : Net) (h2 : Hd) (a1 : Option Addr) (c1 : Nat) (l1 : List (List Int)) (V1 : List (Option Addr × Nat)) (b : Nat) (p : Net) (h : Hd) : Prop where
  gb : GB w wx bs p1 h1 p2 h2 b p h
  raw : RowsIn wx a1 c1 l1 V1
/-- .. the row of numbers. -/
structure SR (w wx : World) (bs : Nat) (p1 : Net) (h1 : Hd) (p2 : Net) (h2 : Hd) (a1 : Option Addr) (c1 : Nat) (l1 : List (List Int)) (V1 : List (Option Addr × Nat)) (b : Nat) (p : Net) (h : Hd) (br : Nat) (n2 n3 n4 m2 m4 : Int) : Prop where
  sb : SB w wx bs p1 h1 p2 h2 a1 c1 l1 V1 b p h
  row : wx.heap[br]? = some (.cells #[.int .i64 n2, .int .i64 n3, .int .i64 n4, .int .i64 m2, .int .i64 0, .int .i64 m4] 34 (0, 0))
/-- .. three of them in a box. -/
structure SX (w wx : World) (bs : Nat) (p1 : Net) (h1 : Hd) (p2 : Net) (h2 : Hd) (a1 : Option Addr) (c1 : Nat) (l1 : List (List Int)) (V1 : List (Option Addr × Nat)) (b : Nat) (p : Net) (h : Hd) (br : Nat) (n2 n3 n4 m2 m4 : Int) (b2 : Nat) (x0 x1 x2 : Int) : Prop where
  sr : SR w wx bs p1 h1 p2 h2 a1 c1 l1 V1 b p h br n2 n3 n4 m2 m4
  box : wx.heap[b2]? = some (.cells #[.int .i64 x0, .int .i64 x1, .int .i64 x2] 34 (0, 0))
/-- .. two lists of routes in a row. -/
structure SY (w wx : World) (bs : Nat) (p1 : Net) (h1 : Hd) (p2 : Net) (h2 : Hd) (a1 : Option Addr) (c1 : Nat) (l1 : List (List Int)) (V1 : List (Option Addr × Nat)) (b : Nat) (p : Net) (h : Hd) (br : Nat) (n2 n3 n4 m2 m4 : Int) (b2 : Nat) (x0 x1 x2 : Int) (b4 : Nat) (Zh : List RtZ) (Ah : Option Addr) (ch : Nat) (Zb : List RtZ) (Ab : Option Addr) (cb : Nat) : Prop where
  sx : SX w wx bs p1 h1 p2 h2 a1 c1 l1 V1 b p h br n2 n3 n4 m2 m4 b2 x0 x1 x2
  two : wx.heap[b4]? = some (.cells #[.slice Ah Zh.length ch, .slice Ab Zb.length cb] 37 (0, 0))
  r1 : RtsR wx wx.heap.size Zh Ah
  r2 : RtsR wx wx.heap.size Zb Ab
section
variable {w wx wy : World} {bs : Nat} {p1 : Net} {h1 : Hd} {p2 : Net} {h2 : Hd} {a1 : Option Addr} {c1 : Nat} {l1 : List (List Int)} {V1 : List (Option Addr × Nat)} {b : Nat} {p : Net} {h : Hd} {br : Nat} {n2 n3 n4 m2 m4 : Int} {b2 : Nat} {x0 x1 x2 : Int} {b4 : Nat} {Zh : List RtZ} {Ah : Option Addr} {ch : Nat} {Zb : List RtZ} {Ab : Option Addr} {cb : Nat}
theorem SO.call (a : SO w wx bs p1 h1 p2 h2 a1 c1 l1 V1) (hb : Below wx.heap.size wx wy) : SO w wy bs p1 h1 p2 h2 a1 c1 l1 V1 := ⟨a.gs.call hb, a.raw.call hb⟩
theorem SB.call (a : SB w wx bs p1 h1 p2 h2 a1 c1 l1 V1 b p h) (hb : Below wx.heap.size wx wy) : SB w wy bs p1 h1 p2 h2 a1 c1 l1 V1 b p h := ⟨a.gb.call hb, a.raw.call hb⟩
theorem SB.so (a : SB w wx bs p1 h1 p2 h2 a1 c1 l1 V1 b p h) : SO w wx bs p1 h1 p2 h2 a1 c1 l1 V1 := ⟨a.gb.gs, a.raw⟩
theorem SR.call (a : SR w wx bs p1 h1 p2 h2 a1 c1 l1 V1 b p h br n2 n3 n4 m2 m4) (hb : Below wx.heap.size wx wy) : SR w wy bs p1 h1 p2 h2 a1 c1 l1 V1 b p h br n2 n3 n4 m2 m4 := ⟨a.sb.call hb, block_kept a.row hb⟩
theorem SX.call (a : SX w wx bs p1 h1 p2 h2 a1 c1 l1 V1 b p h br n2 n3 n4 m2 m4 b2 x0 x1 x2) (hb : Below wx.heap.size wx wy) : SX w wy bs p1 h1 p2 h2 a1 c1 l1 V1 b p h br n2 n3 n4 m2 m4 b2 x0 x1 x2 := ⟨a.sr.call hb, block_kept a.box hb⟩
theorem SX.at_ (a : SX w wx bs p1 h1 p2 h2 a1 c1 l1 V1 b p h br n2 n3 n4 m2 m4 b2 x0 x1 x2) : wx.cell? ⟨b2, 0, none⟩ = some (.int .i64 x0) ∧ wx.cell? ⟨b2, 1, none⟩ = some (.int .i64 x1) ∧ wx.cell? ⟨b2, 2, none⟩ = some (.int .i64 x2) :=
  ⟨cell_of_row wx _ 0 _ _ _ a.box, cell_of_row wx _ 1 _ _ _ a.box, cell_of_row wx _ 2 _ _ _ a.box⟩
theorem SY.call (a : SY w wx bs p1 h1 p2 h2 a1 c1 l1 V1 b p h br n2 n3 n4 m2 m4 b2 x0 x1 x2 b4 Zh Ah ch Zb Ab cb) (hb : Below wx.heap.size wx wy) : SY w wy bs p1 h1 p2 h2 a1 c1 l1 V1 b p h br n2 n3 n4 m2 m4 b2 x0 x1 x2 b4 Zh Ah ch Zb Ab cb := ⟨a.sx.call hb, block_kept a.two hb, a.r1.call hb, a.r2.call hb⟩
theorem SY.at_ (a : SY w wx bs p1 h1 p2 h2 a1 c1 l1 V1 b p h br n2 n3 n4 m2 m4 b2 x0 x1 x2 b4 Zh Ah ch Zb Ab cb) : wx.cell? ⟨b4, 0, none⟩ = some (.slice Ah Zh.length ch) ∧ wx.cell? ⟨b4, 1, none⟩ = some (.slice Ab Zb.length cb) :=
  ⟨cell_of_row wx _ 0 _ _ _ a.two, cell_of_row wx _ 1 _ _ _ a.two⟩
end
attribute [local go_sem ↓] Go.wp_at_zero Go.wp_at_succ
set_option maxRecDepth 100000 in
set_option maxHeartbeats 8000000 in
theorem stableTells_walk (a0 a1 : Option Addr) (c0 c1 : Nat) (l0 : List Int) (l1 : List (List Int)) (V1 : List (Option Addr × Nat)) (n2 n3 n4 : Int) (w : World) (h0 : InRow w a0 c0 l0) (h1 : RowsIn w a1 c1 l1 V1) (k2 : In64 n2) (k3 : In64 n3) (k4 : In64 n4) :
    Calls Tryz.prog 3 #[.slice a0 l0.length c0, .slice a1 l1.length c1, .int .i64 n2, .int .i64 n3, .int .i64 n4] w fun e w' => e = .returned (.bool true) ∧ Below w.heap.size w w' := by
  have I2 := Lib.hid k2
  have I4 := Lib.hid k4
  have H0 := Lib.hid h0
  have H1 := Lib.hid h1
  clear k2 k3 k4 h0 h1
  go_enter Tryz.func3, Tryz.ntmps3
  go_wp2_with fail
  refine (awake10 _).mono ?_
  rintro e w1 ⟨rfl, hb1⟩
  have J0 := Lib.hid (H0.out.call hb1)
  have J1 := Lib.hid (H1.out.call hb1)
  have B1 := Lib.hid hb1
  clear hb1 H0 H1
  go_wp2_with fail
  refine (net_any _ _ l0 c0 J0.out.len J0.out.le J0.out.rd J0.out.in64).mono ?_
  rintro e w2 ⟨p1, h1, rfl, hok, hown, hb⟩
  have K0 := Lib.hid (J0.out.call hb)
  have K1 := Lib.hid (J1.out.call hb)
  have B2 := Lib.hid (since_trans B1.out hb)
  have N2 := Lib.hid hown.net
  have S1 := Lib.hid hok.good.small
  clear hb hok hown J0 J1 B1
  unfold netV netVal
  go_wp2_with fail
  refine (wild_any _ _ l0 c0 K0.out.len K0.out.le K0.out.rd K0.out.in64).mono ?_
  rintro e w3 ⟨p2, h2, rfl, hs2, hn2, hb⟩
  have S2 := Lib.hid hs2
  have hba3 : Below w3.heap.size w3 (w3.alloc (.cells (netCells p1 h1 ++ netCells p2 h2) 30)) := (Below.refl _ _).alloc (Nat.le_refl _) _
  have G0 : Hid (SO w (w3.alloc (.cells (netCells p1 h1 ++ netCells p2 h2) 30)) w3.heap.size p1 h1 p2 h2 a1 c1 l1 V1) := Lib.hid
    ⟨⟨since_alloc (since_trans B2.out hb) _, heap_alloc_new _ _, (N2.out.call hb).call hba3, hn2.call hba3⟩, (K1.out.call hb).call hba3⟩
  clear hb hs2 hn2 N2 K0 K1 B2 hba3
  unfold netV netVal
  have G1 : Hid (SO w (w3.alloc (.cells #[.int .i64 p1.proto, .int .i64 p1.cap, .int .i64 p1.k, .slice h1.an p1.nodes.length h1.cn, .slice h1.al p1.links.length h1.cl, .slice h1.ad p1.dests.length h1.cd, .slice h1.ac p1.checks.length h1.cc, .int .i64 p2.proto, .int .i64 p2.cap, .int .i64 p2.k, .slice h2.an p2.nodes.length h2.cn, .slice h2.al p2.links.length h2.cl, .slice h2.ad p2.dests.length h2.cd, .slice h2.ac p2.checks.length h2.cc] 30)) w3.heap.size p1 h1 p2 h2 a1 c1 l1 V1) := G0
  clear G0
  go_wp2_with fail
  generalize (w3.alloc (.cells #[.int .i64 p1.proto, .int .i64 p1.cap, .int .i64 p1.k, .slice h1.an p1.nodes.length h1.cn, .slice h1.al p1.links.length h1.cl, .slice h1.ad p1.dests.length h1.cd, .slice h1.ac p1.checks.length h1.cc, .int .i64 p2.proto, .int .i64 p2.cap, .int .i64 p2.k, .slice h2.an p2.nodes.length h2.cn, .slice h2.al p2.links.length h2.cl, .slice h2.ad p2.dests.length h2.cd, .slice h2.ac p2.checks.length h2.cc] 30)) = w4 at *
  generalize w3.heap.size = bs at *
  go_loopw [31] (fun si wx => ∃ i : Nat, i ≤ 2 ∧ si = .int .i64 (i : Int) ∧ SO w wx bs p1 h1 p2 h2 a1 c1 l1 V1) (fun si _ => 2 - (intOf si).toNat)
  case atStart => exact ⟨0, by omega, rfl, G1.out⟩
  case round =>
    clear G1
    obtain ⟨i, hi, rfl, hG⟩ := hrel
    have GX := Lib.hid hG
    clear hG
    by_cases hlt : i < 2
    rotate_left
    · have hi2 : i = 2 := by omega
      subst hi2
      clear hlt hi
      go_wp2
      go_ret
      exact ⟨rfl, GX.out.gs.below⟩
    · go_upto_region 4 with fail
      go_cut [13] (fun s wx => ∃ (b : Nat) (p : Net) (h : Hd), s = .pointer (some ⟨b, 0, none⟩) ∧ SB w wx bs p1 h1 p2 h2 a1 c1 l1 V1 b p h ∧ Small p)
      case first =>
        have hi01 : i = 0 ∨ i = 1 := by omega
        rcases hi01 with rfl | rfl
        · obtain ⟨g0, g1, g2, g3, g4, g5, g6⟩ := GX.out.gs.at1
          have hb : Below wr.heap.size wr (wr.alloc (.cells (netCells p1 h1) 30)) := (Below.refl _ _).alloc (Nat.le_refl _) _
          have GN : Hid (SB w (wr.alloc (.cells (netCells p1 h1) 30)) bs p1 h1 p2 h2 a1 c1 l1 V1 wr.heap.size p1 h1) := Lib.hid ⟨⟨GX.out.gs.call hb, heap_alloc_new _ _, GX.out.gs.n1.call hb⟩, GX.out.raw.call hb⟩
          unfold netCells at GN
          clear hb
          go_wp2_with fail
          go_meet
          case rel => exact ⟨_, p1, h1, rfl, GN.out, S1.out⟩
        · obtain ⟨g0, g1, g2, g3, g4, g5, g6⟩ := GX.out.gs.at2
          have hb : Below wr.heap.size wr (wr.alloc (.cells (netCells p2 h2) 30)) := (Below.refl _ _).alloc (Nat.le_refl _) _
          have GN : Hid (SB w (wr.alloc (.cells (netCells p2 h2) 30)) bs p1 h1 p2 h2 a1 c1 l1 V1 wr.heap.size p2 h2) := Lib.hid ⟨⟨GX.out.gs.call hb, heap_alloc_new _ _, GX.out.gs.n2.call hb⟩, GX.out.raw.call hb⟩
          unfold netCells at GN
          clear hb
          go_wp2_with fail
          go_meet
          case rel => exact ⟨_, p2, h2, rfl, GN.out, S2.out⟩
      case rest =>
      clear GX
      obtain ⟨b, p, h, rfl, hG, hsm⟩ := hcut
      have GX := Lib.hid hG
      have SP := Lib.hid hsm
      clear hG hsm
      obtain ⟨v5, rfl⟩ : ∃ v5, v5 = wc := ⟨_, rfl⟩
      go_upto_region 5 with fail
      have HC : Hid (∀ wy, Below v5.heap.size v5 wy → (wy.cell? ⟨b, 0, none⟩ = some (.int .i64 p.proto) ∧ wy.cell? ⟨b, 1, none⟩ = some (.int .i64 p.cap) ∧ wy.cell? ⟨b, 2, none⟩ = some (.int .i64 p.k) ∧ wy.cell? ⟨b, 3, none⟩ = some (.slice h.an p.nodes.length h.cn) ∧ wy.cell? ⟨b, 4, none⟩ = some (.slice h.al p.links.length h.cl) ∧ wy.cell? ⟨b, 5, none⟩ = some (.slice h.ad p.dests.length h.cd) ∧ wy.cell? ⟨b, 6, none⟩ = some (.slice h.ac p.checks.length h.cc))) := Lib.hid (fun wy hb => (GX.out.call hb).gb.all)
      have C1 : Hid (∀ wy, Below v5.heap.size v5 wy → Calls Tryz.prog 7 #[.agg #[.int .i64 p.proto, .int .i64 p.cap, .int .i64 p.k, .slice h.an p.nodes.length h.cn, .slice h.al p.links.length h.cl, .slice h.ad p.dests.length h.cd, .slice h.ac p.checks.length h.cc]] wy fun e w' => e = .returned (.int .i64 (enoughB p)) ∧ Below wy.heap.size wy w') := Lib.hid (fun wy hb => enough_gen p h wy (GX.out.call hb).gb.net SP.out)
      have C2 : Hid (∀ wy, Below v5.heap.size v5 wy → Calls Tryz.prog 8 #[.agg #[.int .i64 p.proto, .int .i64 p.cap, .int .i64 p.k, .slice h.an p.nodes.length h.cn, .slice h.al p.links.length h.cl, .slice h.ad p.dests.length h.cd, .slice h.ac p.checks.length h.cc]] wy fun e w' => e = .returned (.int .i64 (enoughB p)) ∧ Below wy.heap.size wy w') := Lib.hid (fun wy hb => renough_any p h wy (GX.out.call hb).gb.net SP.out)
      go_cut [39] (fun s wx => s = .bool false ∧ Below v5.heap.size v5 wx)
      case first =>
        generalize enoughB p = en at *
        have hen : (en != en) = false := by simp
        have hb0 : Below v5.heap.size v5 v5.drew := below_drew (Below.refl _ _)
        refine wp_region_held_drew (S := (fun wy => (wy.cell? ⟨b, 0, none⟩ = some (.int .i64 p.proto) ∧ wy.cell? ⟨b, 1, none⟩ = some (.int .i64 p.cap) ∧ wy.cell? ⟨b, 2, none⟩ = some (.int .i64 p.k) ∧ wy.cell? ⟨b, 3, none⟩ = some (.slice h.an p.nodes.length h.cn) ∧ wy.cell? ⟨b, 4, none⟩ = some (.slice h.al p.links.length h.cl) ∧ wy.cell? ⟨b, 5, none⟩ = some (.slice h.ad p.dests.length h.cd) ∧ wy.cell? ⟨b, 6, none⟩ = some (.slice h.ac p.checks.length h.cc)))) (by kernel_rfl) (HC.out _ hb0) (fun hHeld0 => ?_)
        refine take_list (i := 0) (v := ?_) rfl (by kernel_rfl) (by kernel_rfl) (by kernel_rfl) (fun _ _ _ h => h) (Or.inl ⟨by rfl, ?_⟩) (by assumption) ?_
        rotate_left
        · (intro w hSw; (try dsimp only at hSw); go_simp; try (with_reducible rfl))
        try simp only [Act.put, List.setIfInBounds_toArray, List.set_cons_zero, List.set_cons_succ]
        refine take_list (i := 2) (v := ?_) rfl (by kernel_rfl) (by kernel_rfl) (by kernel_rfl) (fun _ _ _ h => h) (Or.inl ⟨by rfl, ?_⟩) (by assumption) ?_
        rotate_left
        · (intro w hSw; (try dsimp only at hSw); go_simp; try (with_reducible rfl))
        try simp only [Act.put, List.setIfInBounds_toArray, List.set_cons_zero, List.set_cons_succ]
        refine wpAnyH_ready (rs := [1]) (by kernel_rfl) (by simp) ?_
        refine cons_list rfl (fun K hK => ?_) AllReadyH.nil
        go_simp
        (go_at_call 7; refine (C1.out _ hb0).mono ?_; rintro e wq1 ⟨rfl, hc1⟩; have hb1 := since_trans hb0 hc1)
        refine hK.out _ _ (HC.out _ (by assumption)) (fun hHeld1 => ?_)
        clear hK K hHeld0
        try simp only [Act.put, List.setIfInBounds_toArray, List.set_cons_zero, List.set_cons_succ]
        refine wpAnyH_ready (rs := [3]) (by kernel_rfl) (by simp) ?_
        refine cons_list rfl (fun K hK => ?_) AllReadyH.nil
        go_simp
        (go_at_call 8; refine (C2.out _ hb1).mono ?_; rintro e wq2 ⟨rfl, hc2⟩; have hb2 := since_trans hb1 hc2)
        refine hK.out _ _ (HC.out _ (by assumption)) (fun hHeld2 => ?_)
        clear hK K hHeld1
        try simp only [Act.put, List.setIfInBounds_toArray, List.set_cons_zero, List.set_cons_succ]
        refine take_list (i := 4) (v := ?_) rfl (by kernel_rfl) (by kernel_rfl) (by kernel_rfl) (fun _ _ _ h => h) (Or.inl ⟨by rfl, ?_⟩) (by assumption) ?_
        rotate_left
        · (intro w hSw; (try dsimp only at hSw); go_simp; try (with_reducible rfl))
        try simp only [Act.put, List.setIfInBounds_toArray, List.set_cons_zero, List.set_cons_succ]
        refine wpAnyH_done (by kernel_rfl) ?_ _
        clear hHeld2
        go_wp2_with fail
        go_meet
        case rel => exact ⟨rfl, hb2⟩
      case rest =>
      obtain ⟨rfl, hbc⟩ := hcut
      have GY := Lib.hid (GX.out.call hbc)
      clear GX hbc HC C1 C2
      obtain ⟨v6, rfl⟩ : ∃ v6, v6 = wc := ⟨_, rfl⟩
      go_wp2_with fail
      refine (pick10_any n2 512 _ I2.out (by omega) (by omega)).mono ?_
      rintro e w' ⟨rfl, rfl⟩
      go_wp2_with fail
      refine (pick10_any n4 12 _ I4.out (by omega) (by omega)).mono ?_
      rintro e w' ⟨rfl, rfl⟩
      have hpk := pickV_in (c := n4) (n := 12) (by omega)
      obtain ⟨hpk0, hpk1⟩ := hpk
      generalize pickV n2 512 = m2
      obtain ⟨m4, hm4⟩ : ∃ m4, m4 = IntKind.i64.wrap (pickV n4 12 - 1) := ⟨_, rfl⟩
      have hm4' : IntKind.i64.wrap (pickV n4 12 - 1) = m4 := hm4.symm
      clear hm4
      generalize pickV n4 12 = q4 at *
      clear hpk0 hpk1
      go_wp2_with fail
      have R1 : Hid (SR w (v6.alloc (.cells #[.int .i64 n2, .int .i64 n3, .int .i64 n4, .int .i64 m2, .int .i64 0, .int .i64 m4] 34)) bs p1 h1 p2 h2 a1 c1 l1 V1 b p h v6.heap.size n2 n3 n4 m2 m4) := Lib.hid ⟨GY.out.call ((Below.refl _ _).alloc (Nat.le_refl _) _), heap_alloc_new _ _⟩
      clear GY hm4'
      generalize (v6.alloc (.cells #[.int .i64 n2, .int .i64 n3, .int .i64 n4, .int .i64 m2, .int .i64 0, .int .i64 m4] 34)) = wv at *
      generalize v6.heap.size = br at *
      go_loopw [52] (fun sj wx => ∃ j : Nat, j ≤ 2 ∧ sj = .int .i64 (j : Int) ∧ SR w wx bs p1 h1 p2 h2 a1 c1 l1 V1 b p h br n2 n3 n4 m2 m4) (fun sj _ => 2 - (intOf sj).toNat)
      case atStart => exact ⟨0, by omega, rfl, R1.out⟩
      case round =>
        clear R1
        obtain ⟨j, hj, rfl, hG⟩ := hrel
        have GX := Lib.hid hG
        clear hG
        by_cases hjt : j < 2
        rotate_left
        · have hj2 : j = 2 := by omega
          subst hj2
          clear hjt hj
          go_wp2_with fail
          go_roundw
          case rel => exact ⟨i + 1, by omega, by go_num, GX.out.sb.so⟩
          case measure => simp [intOf]; omega
        · go_upto_region 9 with fail
          go_cut [15] (fun s wx => ∃ (b2 : Nat) (x0 x1 x2 : Int), s = .pointer (some ⟨b2, 0, none⟩) ∧ SX w wx bs p1 h1 p2 h2 a1 c1 l1 V1 b p h br n2 n3 n4 m2 m4 b2 x0 x1 x2)
          case first =>
            have hj01 : j = 0 ∨ j = 1 := by omega
            have RR := GX.out.row
            have e0 := cell_of_row _ _ 0 _ _ _ RR
            have e1 := cell_of_row _ _ 1 _ _ _ RR
            have e2 := cell_of_row _ _ 2 _ _ _ RR
            have e3 := cell_of_row _ _ 3 _ _ _ RR
            have e4 := cell_of_row _ _ 4 _ _ _ RR
            have e5 := cell_of_row _ _ 5 _ _ _ RR
            simp only [List.getElem?_toArray, List.getElem?_cons_zero, List.getElem?_cons_succ] at e0 e1 e2 e3 e4 e5
            have GA := Lib.hid (fun o => GX.out.call ((Below.refl _ _).alloc (Nat.le_refl _) o))
            clear RR
            rcases hj01 with rfl | rfl
            · go_wp2_with fail
              go_meet
              case rel => exact ⟨_, n2, n3, n4, rfl, GA.out _, heap_alloc_new _ _⟩
            · go_wp2_with fail
              go_meet
              case rel => exact ⟨_, m2, 0, m4, rfl, GA.out _, heap_alloc_new _ _⟩
          case rest =>
          clear GX
          obtain ⟨b2, x0, x1, x2, rfl, hG⟩ := hcut
          have GX := Lib.hid hG
          clear hG
          obtain ⟨v7, rfl⟩ : ∃ v7, v7 = wc := ⟨_, rfl⟩
          obtain ⟨L, n, er, hL, hSV⟩ := solves_same p x0 x1 x2 SP.out
          have SV := Lib.hid hSV
          clear hSV
          obtain ⟨g0, g1, g2, g3, g4, g5, g6⟩ := GX.out.sr.sb.gb.all
          obtain ⟨e0, e1, e2⟩ := GX.out.at_
          go_wp2_with fail
          refine (SV.out h _ GX.out.sr.sb.gb.net).1.mono ?_
          rintro e w5 ⟨Za, Aa, ca, rfl, hZa, hLa⟩
          have GY := Lib.hid (GX.out.call hLa.below)
          have LA := Lib.hid hLa.rts
          have ZA := Lib.hid hZa
          have hZa1 : Za.length ≤ 1000 := by have := congrArg List.length hZa; rw [List.length_map] at this; omega
          clear hLa hZa GX g0 g1 g2 g3 g4 g5 g6 e0 e1 e2
          obtain ⟨g0, g1, g2, g3, g4, g5, g6⟩ := GY.out.sr.sb.gb.all
          obtain ⟨e0, e1, e2⟩ := GY.out.at_
          go_wp2_with fail
          refine (SV.out h _ GY.out.sr.sb.gb.net).2.mono ?_
          rintro e w6 ⟨Zb, Ab, cb, rfl, hZb, hLb⟩
          have GZ := Lib.hid (GY.out.call hLb.below)
          have LA2 := Lib.hid (LA.out.call hLb.below)
          have LB := Lib.hid hLb.rts
          have hd : Hid (decide (Za.map (·.1) = Zb.map (·.1)) = true) := Lib.hid (by rw [ZA.out, hZb]; simp)
          have hZb1 : Zb.length ≤ 1000 := by have := congrArg List.length hZb; rw [List.length_map] at this; omega
          have hnn : (n != n) = false := by simp
          have hee : (er != er) = false := by simp
          clear hLb hZb GY LA ZA hL SV g0 g1 g2 g3 g4 g5 g6 e0 e1 e2
          go_wp2_with fail
          refine (refSame9_any Za Zb Aa Ab ca cb _ LA2.out LB.out hZa1 hZb1).mono ?_
          rintro e w7 ⟨rfl, hb⟩
          rw [hd.out]
          have G7 := Lib.hid (GZ.out.call hb)
          have L7 := Lib.hid (LB.out.call hb)
          clear hb GZ LA2 LB hd hZa1 hZb1
          obtain ⟨g0, g1, g2, g3, g4, g5, g6⟩ := G7.out.sr.sb.gb.all
          go_wp2_with fail
          refine (held9_gen p h l1 V1 a1 c1 _ G7.out.sr.sb.gb.net SP.out G7.out.sr.sb.raw).mono ?_
          rintro e w8 ⟨Zh, Ah, ch, rfl, -, hLh⟩
          have G8 := Lib.hid (G7.out.call hLh.below)
          have L8 := Lib.hid (L7.out.call hLh.below)
          have LH := Lib.hid hLh.rts
          clear hLh G7 L7 hnn hee g0 g1 g2 g3 g4 g5 g6
          go_wp2_with fail
          have hba : Below w8.heap.size w8 (w8.alloc (.cells #[.slice Ah Zh.length ch, .slice Ab Zb.length cb] 37)) := (Below.refl _ _).alloc (Nat.le_refl _) _
          have Y1 : Hid (SY w (w8.alloc (.cells #[.slice Ah Zh.length ch, .slice Ab Zb.length cb] 37)) bs p1 h1 p2 h2 a1 c1 l1 V1 b p h br n2 n3 n4 m2 m4 b2 x0 x1 x2 w8.heap.size Zh Ah ch Zb Ab cb) := Lib.hid ⟨G8.out.call hba, heap_alloc_new _ _, LH.out.call hba, L8.out.call hba⟩
          clear hba G8 L8 LH
          generalize (w8.alloc (.cells #[.slice Ah Zh.length ch, .slice Ab Zb.length cb] 37)) = w9 at *
          generalize w8.heap.size = b4 at *
          go_loopw [100] (fun sk wx => ∃ k : Nat, k ≤ 2 ∧ sk = .int .i64 (k : Int) ∧ SY w wx bs p1 h1 p2 h2 a1 c1 l1 V1 b p h br n2 n3 n4 m2 m4 b2 x0 x1 x2 b4 Zh Ah ch Zb Ab cb) (fun sk _ => 2 - (intOf sk).toNat)
          case atStart => exact ⟨0, by omega, rfl, Y1.out⟩
          case round =>
            clear Y1
            obtain ⟨k, hk, rfl, hY⟩ := hrel
            have YX := Lib.hid hY
            clear hY
            by_cases hkt : k < 2
            rotate_left
            · have hk2 : k = 2 := by omega
              subst hk2
              clear hkt hk
              go_wp2_with fail
              go_roundw
              case rel => exact ⟨j + 1, by omega, by go_num, YX.out.sx.sr⟩
              case measure => simp [intOf]; omega
            · go_upto_region 16 with fail
              go_cut [23] (fun s wx => wx = wr ∧ ∃ (Z : List RtZ) (A : Option Addr) (c : Nat), s = .slice A Z.length c ∧ RtsR wr wr.heap.size Z A)
              case first =>
                have hk01 : k = 0 ∨ k = 1 := by omega
                obtain ⟨e0, e1⟩ := YX.out.at_
                rcases hk01 with rfl | rfl
                · go_wp2_with fail
                  go_meet
                  case rel => exact ⟨rfl, Zh, Ah, ch, rfl, YX.out.r1⟩
                · go_wp2_with fail
                  go_meet
                  case rel => exact ⟨rfl, Zb, Ab, cb, rfl, YX.out.r2⟩
              case rest =>
              obtain ⟨hwc, Z, A, c, rfl, hZ⟩ := hcut
              rw [hwc]
              clear hwc wc
              have RZ := Lib.hid hZ
              clear hZ
              obtain ⟨q, hq⟩ := ises_same p x0 x1 Z SP.out
              have QS := Lib.hid hq
              clear hq
              go_upto_region 17 with fail
              have HC : Hid (∀ wy, Below wr.heap.size wr wy → (wy.cell? ⟨b, 0, none⟩ = some (.int .i64 p.proto) ∧ wy.cell? ⟨b, 1, none⟩ = some (.int .i64 p.cap) ∧ wy.cell? ⟨b, 2, none⟩ = some (.int .i64 p.k) ∧ wy.cell? ⟨b, 3, none⟩ = some (.slice h.an p.nodes.length h.cn) ∧ wy.cell? ⟨b, 4, none⟩ = some (.slice h.al p.links.length h.cl) ∧ wy.cell? ⟨b, 5, none⟩ = some (.slice h.ad p.dests.length h.cd) ∧ wy.cell? ⟨b, 6, none⟩ = some (.slice h.ac p.checks.length h.cc)) ∧ (wy.cell? ⟨b2, 0, none⟩ = some (.int .i64 x0) ∧ wy.cell? ⟨b2, 1, none⟩ = some (.int .i64 x1))) := Lib.hid (fun wy hb => ⟨(YX.out.call hb).sx.sr.sb.gb.all, (YX.out.call hb).sx.at_.1, (YX.out.call hb).sx.at_.2.1⟩)
              have C1 : Hid (∀ wy, Below wr.heap.size wr wy → Calls Tryz.prog 14 #[.agg #[.int .i64 p.proto, .int .i64 p.cap, .int .i64 p.k, .slice h.an p.nodes.length h.cn, .slice h.al p.links.length h.cl, .slice h.ad p.dests.length h.cd, .slice h.ac p.checks.length h.cc], .int .i64 x0, .int .i64 x1, .slice A Z.length c] wy fun e w' => e = .returned (.bool q) ∧ Below wy.heap.size wy w') := Lib.hid (fun wy hb => (QS.out h A c wy (YX.out.call hb).sx.sr.sb.gb.net (RZ.out.call hb)).1)
              have C2 : Hid (∀ wy, Below wr.heap.size wr wy → Calls Tryz.prog 15 #[.agg #[.int .i64 p.proto, .int .i64 p.cap, .int .i64 p.k, .slice h.an p.nodes.length h.cn, .slice h.al p.links.length h.cl, .slice h.ad p.dests.length h.cd, .slice h.ac p.checks.length h.cc], .int .i64 x0, .int .i64 x1, .slice A Z.length c] wy fun e w' => e = .returned (.bool q) ∧ Below wy.heap.size wy w') := Lib.hid (fun wy hb => (QS.out h A c wy (YX.out.call hb).sx.sr.sb.gb.net (RZ.out.call hb)).2)
              clear QS
              have hqq : (q != q) = false := by simp
              go_cut [118] (fun s wx => s = .bool false ∧ Below wr.heap.size wr wx)
              case first =>
                have hb0 : Below wr.heap.size wr wr.drew := below_drew (Below.refl _ _)
                generalize Z.length = zl at *
                refine wp_region_held_drew (S := (fun wy => (wy.cell? ⟨b, 0, none⟩ = some (.int .i64 p.proto) ∧ wy.cell? ⟨b, 1, none⟩ = some (.int .i64 p.cap) ∧ wy.cell? ⟨b, 2, none⟩ = some (.int .i64 p.k) ∧ wy.cell? ⟨b, 3, none⟩ = some (.slice h.an p.nodes.length h.cn) ∧ wy.cell? ⟨b, 4, none⟩ = some (.slice h.al p.links.length h.cl) ∧ wy.cell? ⟨b, 5, none⟩ = some (.slice h.ad p.dests.length h.cd) ∧ wy.cell? ⟨b, 6, none⟩ = some (.slice h.ac p.checks.length h.cc)) ∧ (wy.cell? ⟨b2, 0, none⟩ = some (.int .i64 x0) ∧ wy.cell? ⟨b2, 1, none⟩ = some (.int .i64 x1)))) (by kernel_rfl) (HC.out _ hb0) (fun hHeld0 => ?_)
                refine take_list (i := 0) (v := ?_) rfl (by kernel_rfl) (by kernel_rfl) (by kernel_rfl) (fun _ _ _ h => h) (Or.inl ⟨by rfl, ?_⟩) (by assumption) ?_
                rotate_left
                · (intro w hSw; (try dsimp only at hSw); go_simp; try (with_reducible rfl))
                try simp only [Act.put, List.setIfInBounds_toArray, List.set_cons_zero, List.set_cons_succ]
                refine take_list (i := 1) (v := ?_) rfl (by kernel_rfl) (by kernel_rfl) (by kernel_rfl) (fun _ _ _ h => h) (Or.inl ⟨by rfl, ?_⟩) (by assumption) ?_
                rotate_left
                · (intro w hSw; (try dsimp only at hSw); go_simp; try (with_reducible rfl))
                try simp only [Act.put, List.setIfInBounds_toArray, List.set_cons_zero, List.set_cons_succ]
                refine take_list (i := 2) (v := ?_) rfl (by kernel_rfl) (by kernel_rfl) (by kernel_rfl) (fun _ _ _ h => h) (Or.inl ⟨by rfl, ?_⟩) (by assumption) ?_
                rotate_left
                · (intro w hSw; (try dsimp only at hSw); go_simp; try (with_reducible rfl))
                try simp only [Act.put, List.setIfInBounds_toArray, List.set_cons_zero, List.set_cons_succ]
                refine take_list (i := 3) (v := ?_) rfl (by kernel_rfl) (by kernel_rfl) (by kernel_rfl) (fun _ _ _ h => h) (Or.inl ⟨by rfl, ?_⟩) (by assumption) ?_
                rotate_left
                · (intro w hSw; (try dsimp only at hSw); go_simp; try (with_reducible rfl))
                try simp only [Act.put, List.setIfInBounds_toArray, List.set_cons_zero, List.set_cons_succ]
                refine take_list (i := 4) (v := ?_) rfl (by kernel_rfl) (by kernel_rfl) (by kernel_rfl) (fun _ _ _ h => h) (Or.inl ⟨by rfl, ?_⟩) (by assumption) ?_
                rotate_left
                · (intro w hSw; (try dsimp only at hSw); go_simp; try (with_reducible rfl))
                try simp only [Act.put, List.setIfInBounds_toArray, List.set_cons_zero, List.set_cons_succ]
                refine take_list (i := 5) (v := ?_) rfl (by kernel_rfl) (by kernel_rfl) (by kernel_rfl) (fun _ _ _ h => h) (Or.inl ⟨by rfl, ?_⟩) (by assumption) ?_
                rotate_left
                · (intro w hSw; (try dsimp only at hSw); go_simp; try (with_reducible rfl))
                try simp only [Act.put, List.setIfInBounds_toArray, List.set_cons_zero, List.set_cons_succ]
                refine take_list (i := 7) (v := ?_) rfl (by kernel_rfl) (by kernel_rfl) (by kernel_rfl) (fun _ _ _ h => h) (Or.inl ⟨by rfl, ?_⟩) (by assumption) ?_
                rotate_left
                · (intro w hSw; (try dsimp only at hSw); go_simp; try (with_reducible rfl))
                try simp only [Act.put, List.setIfInBounds_toArray, List.set_cons_zero, List.set_cons_succ]
                refine take_list (i := 8) (v := ?_) rfl (by kernel_rfl) (by kernel_rfl) (by kernel_rfl) (fun _ _ _ h => h) (Or.inl ⟨by rfl, ?_⟩) (by assumption) ?_
                rotate_left
                · (intro w hSw; (try dsimp only at hSw); go_simp; try (with_reducible rfl))
                try simp only [Act.put, List.setIfInBounds_toArray, List.set_cons_zero, List.set_cons_succ]
                refine take_list (i := 9) (v := ?_) rfl (by kernel_rfl) (by kernel_rfl) (by kernel_rfl) (fun _ _ _ h => h) (Or.inl ⟨by rfl, ?_⟩) (by assumption) ?_
                rotate_left
                · (intro w hSw; (try dsimp only at hSw); go_simp; try (with_reducible rfl))
                try simp only [Act.put, List.setIfInBounds_toArray, List.set_cons_zero, List.set_cons_succ]
                refine take_list (i := 10) (v := ?_) rfl (by kernel_rfl) (by kernel_rfl) (by kernel_rfl) (fun _ _ _ h => h) (Or.inl ⟨by rfl, ?_⟩) (by assumption) ?_
                rotate_left
                · (intro w hSw; (try dsimp only at hSw); go_simp; try (with_reducible rfl))
                try simp only [Act.put, List.setIfInBounds_toArray, List.set_cons_zero, List.set_cons_succ]
                refine take_list (i := 11) (v := ?_) rfl (by kernel_rfl) (by kernel_rfl) (by kernel_rfl) (fun _ _ _ h => h) (Or.inl ⟨by rfl, ?_⟩) (by assumption) ?_
                rotate_left
                · (intro w hSw; (try dsimp only at hSw); go_simp; try (with_reducible rfl))
                try simp only [Act.put, List.setIfInBounds_toArray, List.set_cons_zero, List.set_cons_succ]
                refine take_list (i := 12) (v := ?_) rfl (by kernel_rfl) (by kernel_rfl) (by kernel_rfl) (fun _ _ _ h => h) (Or.inl ⟨by rfl, ?_⟩) (by assumption) ?_
                rotate_left
                · (intro w hSw; (try dsimp only at hSw); go_simp; try (with_reducible rfl))
                try simp only [Act.put, List.setIfInBounds_toArray, List.set_cons_zero, List.set_cons_succ]
                refine wpAnyH_ready (rs := [6]) (by kernel_rfl) (by simp) ?_
                refine cons_list rfl (fun K hK => ?_) AllReadyH.nil
                go_simp
                (go_at_call 14; refine (C1.out _ hb0).mono ?_; rintro e wq1 ⟨rfl, hc1⟩; have hb1 := since_trans hb0 hc1)
                refine hK.out _ _ (HC.out _ (by assumption)) (fun hHeld1 => ?_)
                clear hK K hHeld0
                try simp only [Act.put, List.setIfInBounds_toArray, List.set_cons_zero, List.set_cons_succ]
                refine wpAnyH_ready (rs := [13]) (by kernel_rfl) (by simp) ?_
                refine cons_list rfl (fun K hK => ?_) AllReadyH.nil
                go_simp
                (go_at_call 15; refine (C2.out _ hb1).mono ?_; rintro e wq2 ⟨rfl, hc2⟩; have hb2 := since_trans hb1 hc2)
                refine hK.out _ _ (HC.out _ (by assumption)) (fun hHeld2 => ?_)
                clear hK K hHeld1
                try simp only [Act.put, List.setIfInBounds_toArray, List.set_cons_zero, List.set_cons_succ]
                refine take_list (i := 14) (v := ?_) rfl (by kernel_rfl) (by kernel_rfl) (by kernel_rfl) (fun _ _ _ h => h) (Or.inl ⟨by rfl, ?_⟩) (by assumption) ?_
                rotate_left
                · (intro w hSw; (try dsimp only at hSw); go_simp; try (with_reducible rfl))
                try simp only [Act.put, List.setIfInBounds_toArray, List.set_cons_zero, List.set_cons_succ]
                refine wpAnyH_done (by kernel_rfl) ?_ _
                clear hHeld2
                go_wp2_with fail
                go_meet
                case rel => exact ⟨rfl, hb2⟩
              case rest =>
              obtain ⟨rfl, hbc⟩ := hcut
              have YY := Lib.hid (YX.out.call hbc)
              clear YX RZ hbc HC C1 C2 hqq
              go_wp2_with fail
              go_roundw
              case rel => exact ⟨k + 1, by omega, by go_num, YY.out⟩
              case measure => simp [intOf]; omega
end Go.Proofs.YtakolnmoieiicaaGreat

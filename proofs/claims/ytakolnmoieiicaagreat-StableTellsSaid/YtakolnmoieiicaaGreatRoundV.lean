/- The walks of round.node and Step, at a network that may be. The walk of round.Step, at a network that may be. What backstaylaw09.Held answers. What backstayref09.Same answers. -/
import Derived.Test.YtakolnmoieiicaaGreatCarryV
import Derived.Test.YtakolnmoieiicaaGreatRoundW
import Derived.Test.YtakolnmoieiicaaGreatHeld
import Derived.Test.YtakolnmoieiicaaGreatBase
import Derived.Test.YtakolnmoieiicaaGreatAttrX
import Derived.Test.YtakolnmoieiicaaGreatAttrB
import Derived.Test.YtakolnmoieiicaaGreatRegs
namespace Go.Proofs.YtakolnmoieiicaaGreat
set_option linter.unusedSimpArgs false
set_option linter.unusedVariables false
open Go.RowKit

section
/-- The list 'all' of node, and what Around handed back. -/
structure NdW (w3 wr : World) (L : List RtZ) (A : Option Addr) (c : Nat) (B : Nat) (a : Option Addr) (ca : Nat) (ar : List Nat) : Prop where
  lw : LW w3 wr L A c
  ar : Own wr B 3 1 a ar.length ca (nats ar)
section
variable {w3 wr w2 w' : World} {L : List RtZ} {A : Option Addr} {c B : Nat} {a : Option Addr} {ca : Nat} {ar : List Nat}
theorem NdW.call (x : NdW w3 wr L A c B a ca ar) (hb : Below wr.heap.size wr w') : NdW w3 w' L A c B a ca ar := ⟨x.lw.call hb, x.ar.call hb⟩
theorem NdW.alloc (x : NdW w3 wr L A c B a ca ar) (o : Obj) : NdW w3 (wr.alloc o) L A c B a ca ar := x.call ((Below.refl _ _).alloc (Nat.le_refl _) o)
theorem NdW.drew (x : NdW w3 wr L A c B a ca ar) : NdW w3 wr.drew L A c B a ca ar := x.call (below_drew (Below.refl _ _))
theorem NdW.app (x : NdW w3 wr L A c B a ca ar) {z : RtZ} {B' : Nat} (hB : w3.heap.size ≤ B') (ho : OwnOr wr B' z.2.1 z.2.2 z.1.path) {A2 : Option Addr} {n c2 : Nat} (hn : n = L.length + 1) (hg : wr.grownBy w2 (blk A)) (hown : Own w2 w3.heap.size 48 3 A2 n c2 (L.flatMap rtCells ++ rtCells z)) :
    NdW w3 w2 (L ++ [z]) A2 c2 B a ca ar := ⟨x.lw.app hB ho hn hg hown, x.ar.keptN hg (own_two x.ar x.lw.row (by decide) x.lw.za)⟩
end
theorem ownR_nil (p : Net) (d n : Int) : (ownR p d n).path = [] := by unfold ownR rtOwn; split <;> (try split) <;> rfl

attribute [local go_sem ↓] Go.wp_at_zero Go.wp_at_succ
set_option maxRecDepth 100000 in
set_option maxHeartbeats 4000000 in
theorem node_any (p : Net) (h : Hd) (f d : Int) (i : Nat) (l : St) (Z : List RtZ) (A : Option Addr) (c : Nat) (w : World) (hp : NetR w w.heap.size p h) (hg : Good p) (hl : RtsR w w.heap.size Z A) (hZ : Z.map (·.1) = stL p l) (hf : FitsF p l) (hi : i < p.nodes.length) :
    Calls Tryz.prog 47 #[netV p h, .int .i64 f, .int .i64 d, .int .i64 (i : Int), .slice A Z.length c] w (OrPost (stepF p f d l i) w) := by
  have PX : Hid (PR w ((w.alloc (.cells (netCells p h) 30)).alloc (.cells #[.int .i64 0, .int .i64 0, .slice none 0 0] 48)) p h rtNone none 0) := Lib.hid (PR.begin hp rtR_nil)
  have HG := Lib.hid hg
  have HL := Lib.hid hl
  have HZ := Lib.hid hZ
  have HF := Lib.hid hf
  have hZl : Z.length = p.nodes.length := by have := congrArg List.length hZ; rw [List.length_map, stL_len] at this; exact this
  have hl16 := hg.l16
  obtain ⟨i3, hi3, hz3, hs3, hb3⟩ := info_parts Tryz.info_rt
  have HSF : Hid (stepF p f d l i = bestR (ownR p d i :: (arL p.links f i p.links.length).map fun (k : Nat) => overR p k i (l (othL p.links k i).toNat))) := Lib.hid rfl
  have HOP := Lib.hid (ownR_nil p d i)
  unfold netV netVal
  clear hp hg hl hZ hf
  generalize hso : stepF p f d l i = so at *
  go_enter Tryz.func47, Tryz.ntmps47
  go_wp2_with fail
  refine (ownX_any p h d i _ PX.out.net HG.out).mono ?_
  rintro e w1 ⟨rfl, hb1⟩
  have P1 := Lib.hid (PX.out.call hb1)
  generalize hoo : ownR p d i = oo at *
  have L1 := Lib.hid (LW.one (Below.refl w1.heap.size w1) (z := (oo, (none, 0))) (B := w1.heap.size) (.inr ⟨HOP.out, Nat.zero_le _⟩) (Nat.le_refl _))
  have P2 := Lib.hid (P1.out.call ((Below.refl _ _).alloc (Nat.le_refl _) (.cells #[.int .i64 oo.kind, .int .i64 oo.cost, .slice none oo.path.length 0] 48)))
  obtain ⟨c0, c1, c2, c3, c4, c5, c6⟩ := P2.out.all
  clear hb1 hoo hso
  unfold rtV
  go_wp2_with fail
  refine (aroundX_any p h f i _ P2.out.net HG.out).mono ?_
  rintro e w3 ⟨Aa, ca, rfl, hoa, hb3⟩
  have N3 := Lib.hid (⟨L1.out.call hb3, hoa.more (by simp)⟩ : NdW w1 w3 [((oo, (none, 0)) : RtZ)] (some ⟨w1.heap.size, 0, none⟩) 1 w1.heap.size Aa ca (arL p.links f i p.links.length))
  have HAR : Hid (∀ k ∈ arL p.links f i p.links.length, ∃ u : Nat, othL p.links k i = u ∧ u < p.nodes.length) := Lib.hid (fun k hk => by
    obtain ⟨h1, h2⟩ := mem_arL.1 hk
    have hx : p.links[k]? = some p.links[k] := List.getElem?_eq_getElem h1
    obtain ⟨m, hm, hmN, -⟩ := ar_oth HG.out.lksOk hx h2
    exact ⟨m, by unfold othL; simp [hx, hm], hmN⟩)
  have hal := arL_le p.links f i p.links.length
  generalize arL p.links f i p.links.length = ar at *
  clear hoa hb3 c0 c1 c2 c3 c4 c5 c6
  go_wp2_with fail
  go_loopw [11, 24] (fun sl si wx => ∃ (j : Nat) (L : List RtZ) (A' : Option Addr) (c' : Nat), j ≤ ar.length ∧ si = .int .i64 j ∧ sl = .slice A' L.length c' ∧ L.length = j + 1 ∧ L.map (·.1) = oo :: (ar.take j).map (fun (k : Nat) => overR p k i (l (othL p.links k i).toNat)) ∧ NdW w1 wx L A' c' w1.heap.size Aa ca ar) (fun _ si _ => ar.length - (intOf si).toNat)
  case atStart => exact ⟨0, _, _, _, Nat.zero_le _, rfl, rfl, rfl, rfl, N3.out⟩
  case round =>
    obtain ⟨j, L, A', c', hj, rfl, rfl, hLj, hmap, hN⟩ := hrel
    have NX := Lib.hid hN
    have MX := Lib.hid hmap
    have HLj := Lib.hid hLj
    have P4 := Lib.hid (P1.out.call hN.lw.below)
    obtain ⟨c0, c1, c2, c3, c4, c5, c6⟩ := P4.out.all
    have hL17 : L.length ≤ 17 := by omega
    clear hmap hN hLj
    by_cases hlt : j < ar.length
    · obtain ⟨k, hk⟩ : ∃ k, ar[j]? = some k := ⟨_, List.getElem?_eq_getElem hlt⟩
      obtain ⟨u, hu, huN⟩ := HAR.out k (List.mem_of_getElem? hk)
      obtain ⟨b, o, rfl, hb, hc⟩ := NX.out.ar.rd.one (nats_at hk)
      obtain ⟨z, hz⟩ : ∃ z, Z[u]? = some z := ⟨_, List.getElem?_eq_getElem (by omega)⟩
      have hzl : z.1 = l u := by
        have h1 : (Z.map (·.1))[u]? = some z.1 := by rw [List.getElem?_map, hz]; rfl
        rw [HZ.out, stL_at (by omega)] at h1
        injection h1 with h1
        exact h1.symm
      have LZ := Lib.hid (HL.out.below P1.out.below (Nat.le_refl _))
      obtain ⟨bz, oz, e, hbz, z0, z1, z2⟩ := LZ.out.at_ hz
      subst e
      have HRZ := Lib.hid (LZ.out.each z (List.mem_of_getElem? hz))
      have HM := Lib.hid (show ∀ q, (L ++ [((overR p k i z.1, q) : RtZ)]).map (·.1) = oo :: (ar.take (j + 1)).map (fun (k : Nat) => overR p k i (l (othL p.links k i).toNat)) from fun q => by
        rw [List.map_append, MX.out, List.take_add_one, hk, List.map_append]
        simp [hu, hzl])
      have hj0 : (0 : Int) ≤ (j : Int) := by omega
      have hu1 : (u : Int) < (Z.length : Int) := by omega
      have hu0 : (0 : Int) ≤ (u : Int) := by omega
      have hws := P1.out.below.size
      have HC : Hid (∀ wy, Below w1.heap.size w1 wy → wy.cell? ⟨w.heap.size, 0, none⟩ = some (.int .i64 p.proto) ∧ wy.cell? ⟨w.heap.size, 1, none⟩ = some (.int .i64 p.cap) ∧ wy.cell? ⟨w.heap.size, 2, none⟩ = some (.int .i64 p.k) ∧ wy.cell? ⟨w.heap.size, 3, none⟩ = some (.slice h.an p.nodes.length h.cn) ∧ wy.cell? ⟨w.heap.size, 4, none⟩ = some (.slice h.al p.links.length h.cl) ∧ wy.cell? ⟨w.heap.size, 5, none⟩ = some (.slice h.ad p.dests.length h.cd) ∧ wy.cell? ⟨w.heap.size, 6, none⟩ = some (.slice h.ac p.checks.length h.cc) ∧ wy.cell? ⟨bz, oz + u * 3, none⟩ = some (.int .i64 z.1.kind) ∧ wy.cell? ⟨bz, oz + u * 3 + 1, none⟩ = some (.int .i64 z.1.cost) ∧ wy.cell? ⟨bz, oz + u * 3 + 2, none⟩ = some (.slice z.2.1 z.1.path.length z.2.2)) := Lib.hid (fun wy hb' => by
        obtain ⟨q0, q1, q2, q3, q4, q5, q6⟩ := (P1.out.call hb').all
        exact ⟨q0, q1, q2, q3, q4, q5, q6, (hb'.cell (p := ⟨bz, _, none⟩) (Nat.lt_of_lt_of_le hbz hws)).trans z0, (hb'.cell (p := ⟨bz, _, none⟩) (Nat.lt_of_lt_of_le hbz hws)).trans z1, (hb'.cell (p := ⟨bz, _, none⟩) (Nat.lt_of_lt_of_le hbz hws)).trans z2⟩)
      have CO : Hid (∀ wy, NdW w1 wy L A' c' w1.heap.size (some ⟨b, o, none⟩) ca ar → Calls Tryz.prog 75 #[.agg #[.int .i64 p.proto, .int .i64 p.cap, .int .i64 p.k, .slice h.an p.nodes.length h.cn, .slice h.al p.links.length h.cl, .slice h.ad p.dests.length h.cd, .slice h.ac p.checks.length h.cc], .int .i64 (k : Int), .int .i64 (i : Int)] wy fun e w' => e = .returned (.int .i64 (u : Int)) ∧ NdW w1 w' L A' c' w1.heap.size (some ⟨b, o, none⟩) ca ar) := Lib.hid (fun wy a =>
        (otherX_any p h k i wy (P1.out.call a.lw.below).net HG.out).mono fun e w' ⟨h1, h2⟩ => ⟨by rw [h1, hu], a.call h2⟩)
      have CV : Hid (∀ wy, NdW w1 wy L A' c' w1.heap.size (some ⟨b, o, none⟩) ca ar → Calls Tryz.prog 74 #[.agg #[.int .i64 p.proto, .int .i64 p.cap, .int .i64 p.k, .slice h.an p.nodes.length h.cn, .slice h.al p.links.length h.cl, .slice h.ad p.dests.length h.cd, .slice h.ac p.checks.length h.cc], .int .i64 (k : Int), .int .i64 (i : Int), .agg #[.int .i64 z.1.kind, .int .i64 z.1.cost, .slice z.2.1 z.1.path.length z.2.2]] wy fun e w' => ∃ A5 c5, e = .returned (.agg #[.int .i64 (overR p k i z.1).kind, .int .i64 (overR p k i z.1).cost, .slice A5 (overR p k i z.1).path.length c5]) ∧ OwnOr w' w1.heap.size A5 c5 (overR p k i z.1).path ∧ NdW w1 w' L A' c' w1.heap.size (some ⟨b, o, none⟩) ca ar) := Lib.hid (fun wy a =>
        (overO_any p h k i z.1 z.2.1 z.2.2 wy (P1.out.call a.lw.below).net HG.out ((HRZ.out.below a.lw.below hws).more (Nat.le_trans hws a.lw.below.size))).mono fun e w' ⟨A5, c5, h1, h2, h3⟩ => ⟨A5, c5, h1, h2.more a.lw.below.size, a.call h3⟩)
      generalize overR p k i z.1 = r at *
      clear hk hz hzl z0 z1 z2 hbz hu hb
      go_upto_region 5 with fail
      have hNd := NX.out.drew
      clear c0 c1 c2 c3 c4 c5 c6 hc
      refine wp_region_held_drew (S := (fun wy => wy.cell? ⟨w.heap.size, 0, none⟩ = some (.int .i64 p.proto) ∧ wy.cell? ⟨w.heap.size, 1, none⟩ = some (.int .i64 p.cap) ∧ wy.cell? ⟨w.heap.size, 2, none⟩ = some (.int .i64 p.k) ∧ wy.cell? ⟨w.heap.size, 3, none⟩ = some (.slice h.an p.nodes.length h.cn) ∧ wy.cell? ⟨w.heap.size, 4, none⟩ = some (.slice h.al p.links.length h.cl) ∧ wy.cell? ⟨w.heap.size, 5, none⟩ = some (.slice h.ad p.dests.length h.cd) ∧ wy.cell? ⟨w.heap.size, 6, none⟩ = some (.slice h.ac p.checks.length h.cc) ∧ wy.cell? ⟨bz, oz + u * 3, none⟩ = some (.int .i64 z.1.kind) ∧ wy.cell? ⟨bz, oz + u * 3 + 1, none⟩ = some (.int .i64 z.1.cost) ∧ wy.cell? ⟨bz, oz + u * 3 + 2, none⟩ = some (.slice z.2.1 z.1.path.length z.2.2))) (by kernel_rfl) (HC.out _ hNd.lw.below) (fun hHeld0 => ?_)
      refine take_list (i := 0) (v := ?_) rfl (by kernel_rfl) (by kernel_rfl) (by kernel_rfl) (fun _ _ _ h => h) (Or.inl ⟨by rfl, ?_⟩) (by assumption) ?_
      rotate_left
      · (intro w hSw; (try dsimp only at hSw); go_simp; try (with_reducible rfl))
      try simp only [Act.put, List.setIfInBounds_toArray, List.set_cons_zero, List.set_cons_succ]
      refine take_list (i := 1) (v := ?_) rfl (by kernel_rfl) (by kernel_rfl) (by kernel_rfl) (fun _ _ _ h => h) (Or.inl ⟨by rfl, ?_⟩) (by assumption) ?_
      rotate_left
      · (intro w hSw; (try dsimp only at hSw); go_simp; try (with_reducible rfl))
      try simp only [Act.put, List.setIfInBounds_toArray, List.set_cons_zero, List.set_cons_succ]
      refine take_list (i := 2) (v := ?_) rfl (by kernel_rfl) (by kernel_rfl) (by kernel_rfl) (fun _ _ _ h => h) (Or.inl ⟨by rfl, ?_⟩) (by assumption) ?_
      rotate_left
      · (intro w hSw; (try dsimp only at hSw); go_simp; try (with_reducible rfl))
      try simp only [Act.put, List.setIfInBounds_toArray, List.set_cons_zero, List.set_cons_succ]
      refine take_list (i := 3) (v := ?_) rfl (by kernel_rfl) (by kernel_rfl) (by kernel_rfl) (fun _ _ _ h => h) (Or.inl ⟨by rfl, ?_⟩) (by assumption) ?_
      rotate_left
      · (intro w hSw; (try dsimp only at hSw); go_simp; try (with_reducible rfl))
      try simp only [Act.put, List.setIfInBounds_toArray, List.set_cons_zero, List.set_cons_succ]
      refine take_list (i := 4) (v := ?_) rfl (by kernel_rfl) (by kernel_rfl) (by kernel_rfl) (fun _ _ _ h => h) (Or.inl ⟨by rfl, ?_⟩) (by assumption) ?_
      rotate_left
      · (intro w hSw; (try dsimp only at hSw); go_simp; try (with_reducible rfl))
      try simp only [Act.put, List.setIfInBounds_toArray, List.set_cons_zero, List.set_cons_succ]
      refine take_list (i := 5) (v := ?_) rfl (by kernel_rfl) (by kernel_rfl) (by kernel_rfl) (fun _ _ _ h => h) (Or.inl ⟨by rfl, ?_⟩) (by assumption) ?_
      rotate_left
      · (intro w hSw; (try dsimp only at hSw); go_simp; try (with_reducible rfl))
      try simp only [Act.put, List.setIfInBounds_toArray, List.set_cons_zero, List.set_cons_succ]
      refine take_list (i := 6) (v := ?_) rfl (by kernel_rfl) (by kernel_rfl) (by kernel_rfl) (fun _ _ _ h => h) (Or.inl ⟨by rfl, ?_⟩) (by assumption) ?_
      rotate_left
      · (intro w hSw; (try dsimp only at hSw); go_simp; try (with_reducible rfl))
      try simp only [Act.put, List.setIfInBounds_toArray, List.set_cons_zero, List.set_cons_succ]
      refine take_list (i := 7) (v := ?_) rfl (by kernel_rfl) (by kernel_rfl) (by kernel_rfl) (fun _ _ _ h => h) (Or.inl ⟨by rfl, ?_⟩) (by assumption) ?_
      rotate_left
      · (intro w hSw; (try dsimp only at hSw); go_simp; try (with_reducible rfl))
      try simp only [Act.put, List.setIfInBounds_toArray, List.set_cons_zero, List.set_cons_succ]
      refine wpAnyH_ready (rs := [8]) (by kernel_rfl) (by simp) ?_
      refine cons_list rfl (fun K hK => ?_) AllReadyH.nil
      go_simp
      (go_at_call 75; refine (CO.out _ hNd).mono ?_; rintro e wm ⟨rfl, hN6⟩)
      refine hK.out _ _ (HC.out _ (by first | exact hN9.lw.below | exact hN8.lw.below | exact hN7.lw.below | exact hN6.lw.below)) (fun hHeld1 => ?_)
      clear hK K hHeld0
      try simp only [Act.put, List.setIfInBounds_toArray, List.set_cons_zero, List.set_cons_succ]
      refine take_list (i := 9) (v := ?_) rfl (by kernel_rfl) (by kernel_rfl) (by kernel_rfl) (fun _ _ _ h => h) (Or.inl ⟨by rfl, ?_⟩) (by assumption) ?_
      rotate_left
      · (intro w hSw; (try dsimp only at hSw); go_simp; try (with_reducible rfl))
      try simp only [Act.put, List.setIfInBounds_toArray, List.set_cons_zero, List.set_cons_succ]
      refine take_list (i := 10) (v := ?_) rfl (by kernel_rfl) (by kernel_rfl) (by kernel_rfl) (fun _ _ _ h => h) (Or.inl ⟨by rfl, ?_⟩) (by assumption) ?_
      rotate_left
      · (intro w hSw; (try dsimp only at hSw); go_simp; try (with_reducible rfl))
      try simp only [Act.put, List.setIfInBounds_toArray, List.set_cons_zero, List.set_cons_succ]
      refine wpAnyH_ready (rs := [11]) (by kernel_rfl) (by simp) ?_
      refine cons_list rfl (fun K hK => ?_) AllReadyH.nil
      go_simp
      (go_at_call 74; refine (CV.out _ hN6).mono ?_; rintro e wn ⟨A5, c5, rfl, ho5, hN7⟩; have hN8 := hN7.alloc (.cells #[.int .i64 r.kind, .int .i64 r.cost, .slice A5 r.path.length c5] 48))
      refine hK.out _ _ (HC.out _ (by first | exact hN9.lw.below | exact hN8.lw.below | exact hN7.lw.below | exact hN6.lw.below)) (fun hHeld2 => ?_)
      clear hK K hHeld1
      try simp only [Act.put, List.setIfInBounds_toArray, List.set_cons_zero, List.set_cons_succ]
      refine wpAnyH_ready (rs := [12]) (by kernel_rfl) (by simp) ?_
      refine cons_list rfl (fun K hK => ?_) AllReadyH.nil
      go_simp
      refine hK.out _ _ (HC.out _ (by first | exact hN9.lw.below | exact hN8.lw.below | exact hN7.lw.below | exact hN6.lw.below)) (fun hHeld3 => ?_)
      clear hK K hHeld2
      try simp only [Act.put, List.setIfInBounds_toArray, List.set_cons_zero, List.set_cons_succ]
      refine wpAnyH_ready (rs := [13]) (by kernel_rfl) (by simp) ?_
      refine cons_list rfl (fun K hK => ?_) AllReadyH.nil
      (refine step_app _ (by rfl) _ _ 37 (by rfl) w1.heap.size 48 i3 _ 3 40 Tryz.underlying37 hi3 hz3 hs3 hb3 rfl (by decide) _ _ _ (L.flatMap rtCells) (by rfl) hN8.lw.row _ 1 _ (rtCells ((r, (A5, c5)) : RtZ)) (by rfl) (Rd.new (by simp) rfl) (by intro x hx; simp [rtCells] at hx; rcases hx with rfl | rfl | rfl <;> rfl) (by unfold maxLen; omega) (by omega) (by have := hN7.lw.below.size; simp; omega) ?_; intro A2 c2 w5 hown2 hgrow2 hblk2 _; have hN9 := hN8.app (z := ((r, (A5, c5)) : RtZ)) (B' := w1.heap.size) (Nat.le_refl _) (ho5.alloc _) (by rfl) hgrow2 hown2)
      refine hK.out _ _ (HC.out _ (by first | exact hN9.lw.below | exact hN8.lw.below | exact hN7.lw.below | exact hN6.lw.below)) (fun hHeld4 => ?_)
      clear hK K hHeld3
      try simp only [Act.put, List.setIfInBounds_toArray, List.set_cons_zero, List.set_cons_succ]
      refine take_list (i := 14) (v := ?_) rfl (by kernel_rfl) (by kernel_rfl) (by kernel_rfl) (fun _ _ _ h => h) (Or.inl ⟨by rfl, ?_⟩) (by assumption) ?_
      rotate_left
      · (intro w hSw; (try dsimp only at hSw); go_simp; try (with_reducible rfl))
      try simp only [Act.put, List.setIfInBounds_toArray, List.set_cons_zero, List.set_cons_succ]
      refine wpAnyH_done (by kernel_rfl) ?_ _
      clear hHeld4
      have N9 := Lib.hid hN9
      clear hN6 hN7 hN8 hN9 hNd hown2 hgrow2 hblk2 ho5
      go_wp2
      go_roundw
      case rel => exact ⟨j + 1, _, A2, c2, by omega, by go_num, by simp, by have := HLj.out; simp; omega, HM.out _, N9.out⟩
      case measure => simp [intOf]; omega
    · have hjl : j = ar.length := by omega
      have HS : Hid (bestR (L.map (·.1)) = so) := Lib.hid (by rw [MX.out, hjl, List.take_length, HSF.out])
      have HSH : Hid (∀ y ∈ L, y.1.path.length ≤ 1000000) := Lib.hid (fun y hy => by
        have h1 : y.1 ∈ L.map (·.1) := List.mem_map.2 ⟨y, hy, rfl⟩
        rw [MX.out] at h1
        rcases List.mem_cons.1 h1 with e | h1
        · rw [e, HOP.out]; simp
        · obtain ⟨k, -, e⟩ := List.mem_map.1 h1
          have := (holds_over p k i (l (othL p.links k i).toNat)).1.short
          rw [← e]; omega)
      have hws := P4.out.size
      clear hjl
      go_wp2_with fail
      refine (best_any L A' c' _ NX.out.lw.rts (by omega) HSH.out).mono ?_
      rintro e w5 ⟨A5, q5, rfl, ho5, -, hb5⟩
      rw [HS.out] at ho5 ⊢
      have P5 := Lib.hid (P4.out.call hb5)
      obtain ⟨hfz, ⟨r0, r1, r2⟩, ⟨f0, f1, f2⟩⟩ := rt_put (b := w.heap.size + 1) P5.out.below (Nat.le_succ _) P5.out.box (.int .i64 so.kind) (.int .i64 so.cost) (.slice A5 so.path.length q5)
      have ho6 := (((show OwnOr w5 wr.heap.size A5 q5 so.path from .inl ho5).far (q := ⟨w.heap.size + 1, 0, none⟩) (by dsimp only; omega) (.int .i64 so.kind)).far (q := ⟨w.heap.size + 1, 1, none⟩) (by dsimp only; omega) (.int .i64 so.cost)).far (q := ⟨w.heap.size + 1, 2, none⟩) (by dsimp only; omega) (.slice A5 so.path.length q5)
      have HFI : Hid (OrPost so w (.returned (rtV so A5 q5)) (((w5.setCell ⟨w.heap.size + 1, 0, none⟩ (.int .i64 so.kind)).setCell ⟨w.heap.size + 1, 1, none⟩ (.int .i64 so.cost)).setCell ⟨w.heap.size + 1, 2, none⟩ (.slice A5 so.path.length q5))) := Lib.hid ⟨A5, q5, rfl, ho6.more (by omega), hfz⟩
      clear ho5 hb5 hfz ho6 c0 c1 c2 c3 c4 c5
      unfold rtV
      go_wp2
      exact bodyPost_ret (v := .agg #[.int .i64 so.kind, .int .i64 so.cost, .slice A5 so.path.length q5]) (by simp [results, Tryz.results47, go_sem, r0, r1, r2]) rfl HFI.out

attribute [local go_sem ↓] Go.wp_at_zero Go.wp_at_succ
set_option maxRecDepth 100000 in
set_option maxHeartbeats 4000000 in
theorem stepR_any (p : Net) (h : Hd) (f d : Int) (l : St) (Z : List RtZ) (A : Option Addr) (c : Nat) (w : World) (hp : NetR w w.heap.size p h) (hg : Good p) (hd : placeB d p.dests.length = true) (hl : RtsR w w.heap.size Z A) (hZ : Z.map (·.1) = stL p l) (hf : FitsF p l) :
    Calls Tryz.prog 21 #[netV p h, .int .i64 f, .int .i64 d, .slice A Z.length c] w (StsPost w (stL p (stepF p f d l))) := by
  have PX := Lib.hid (AtRight.begin hp)
  have HG := Lib.hid hg
  have HD := Lib.hid hd
  have HL := Lib.hid ((hl.alloc (Nat.le_refl _) (.cells (netCells p h) 30)).more (B' := (w.alloc (.cells (netCells p h) 30)).heap.size) (by rw [World.size_alloc]; exact Nat.le_succ _))
  have HZ := Lib.hid hZ
  have HF := Lib.hid hf
  have hn12 := hg.n12.2
  have HZl : Hid (Z.length = p.nodes.length) := Lib.hid (by have := congrArg List.length hZ; rw [List.length_map, stL_len] at this; exact this)
  have hZ12 : Z.length ≤ 12 := by have := HZl.out; omega
  obtain ⟨i3, hi3, hz3, hs3, hb3⟩ := info_parts Tryz.info_rt
  clear hp hg hd hl hZ hf
  unfold netV netVal
  go_enter Tryz.func21, Tryz.ntmps21
  go_wp2_with fail
  refine (there_any p h d _ PX.out.net HG.out HD.out).mono ?_
  rintro e w1 ⟨rfl, hb1⟩
  have P1 := Lib.hid (PX.out.call hb1)
  have L1 := Lib.hid (HL.out.call hb1)
  obtain ⟨c0, c1, c2, c3, c4, c5, c6⟩ := P1.out.all
  clear hb1 PX
  go_wp2_with fail
  refine (fitsR_any p h l Z A c _ P1.out.net HG.out L1.out HZ.out HF.out).mono ?_
  rintro e w2 ⟨rfl, hb2⟩
  have P2 := Lib.hid (P1.out.call hb2)
  have L2 := Lib.hid (L1.out.call hb2)
  clear hb2 c0 c1 c2 c3 c4 c5 c6
  go_wp2_with fail
  go_loopw [8, 22] (fun sl si wx => ∃ (k : Nat) (L : List RtZ) (A : Option Addr) (c : Nat), k ≤ Z.length ∧ L.length = k ∧ si = .int .i64 k ∧ sl = .slice A L.length c ∧ L.map (·.1) = (List.range k).map (stepF p f d l) ∧ LW w2 wx L A c) (fun _ si _ => Z.length - (intOf si).toNat)
  case atStart => exact ⟨0, [], none, 0, Nat.zero_le _, rfl, rfl, rfl, rfl, LW.begin (Below.refl _ _)⟩
  case round =>
    obtain ⟨k, L, A0, c0', hk, hLk, rfl, rfl, hmap, hL⟩ := hrel
    have LX := Lib.hid hL
    have MX := Lib.hid hmap
    have HLk := Lib.hid hLk
    have hL12 : L.length ≤ 12 := by omega
    have P3 := Lib.hid (P2.out.call hL.below)
    have L3 := Lib.hid (L2.out.call hL.below)
    have hLs := hL.below.size
    clear hL hmap hLk
    obtain ⟨c0, c1, c2, c3, c4, c5, c6⟩ := P3.out.all
    by_cases hlt : k < Z.length
    · go_wp2_with fail
      refine (node_any p h f d k l Z A c _ P3.out.net HG.out L3.out HZ.out HF.out (by have := HZl.out; omega)).mono ?_
      rintro e w4 ⟨A4, c4', rfl, ho4, hb4⟩
      have L4 := Lib.hid (LX.out.call hb4)
      have O4 := Lib.hid ho4
      have HM := Lib.hid (show ∀ q, (L ++ [((stepF p f d l k, q) : RtZ)]).map (·.1) = (List.range (k + 1)).map (stepF p f d l) from fun q => by rw [List.map_append, MX.out, range_snoc]; rfl)
      generalize stepF p f d l k = r at *
      clear hb4 ho4 c0 c1 c2 c3 c4 c5 c6
      unfold rtV
      go_wp2_with ((at_builtin; go_loud (refine wpList_app _ rfl _ _ 37 rfl (w2.heap.size) 48 i3 _ 3 40 Tryz.underlying37 hi3 hz3 hs3 hb3 rfl (by decide) _ _ _ (L.flatMap rtCells) rfl (L4.out.alloc _).row _ 1 _ (rtCells ((r, (A4, c4')) : RtZ)) rfl (Rd.new (by simp) rfl) ?h1 ?h63 ?hby ?hB ?_); go_loud (case h1 => intro u hu; simp [rtCells] at hu; rcases hu with rfl | rfl | rfl <;> rfl); go_loud (case h63 => unfold maxLen; omega); go_loud (case hby => omega); go_loud (case hB => have := L4.out.below.size; simp; omega); intro A2 c2 w5 hown2 hgrow2 hblk2 _; go_loud (have L5 := Lib.hid (LW.app (z := ((r, (A4, c4')) : RtZ)) (L4.out.alloc _) (show w2.heap.size ≤ wr.heap.size from hLs) (O4.out.alloc _) (by rfl) hgrow2 hown2))); clear hown2 hgrow2 hblk2)
      go_roundw
      case rel => exact ⟨k + 1, _, A2, c2, by omega, by have := HLk.out; simp; omega, by go_num, by simp, HM.out _, L5.out⟩
      case measure => simp [intOf]; omega
    · have hkN : k = p.nodes.length := by have := HZl.out; omega
      have HFI : Hid (StsPost w (stL p (stepF p f d l)) (.returned (.slice A0 L.length c0')) wr) := Lib.hid ⟨L, A0, c0', rfl, by rw [MX.out, hkN]; rfl, LX.out.since P2.out.below⟩
      clear hkN
      go_wp2
      go_ret
      exact HFI.out
end

section
attribute [local go_sem ↓] Go.wp_at_zero Go.wp_at_succ
set_option maxRecDepth 100000 in
set_option maxHeartbeats 4000000 in
theorem held9_any (p : Net) (h : Hd) (R : List (List Int)) (V : List (Option Addr × Nat)) (A : Option Addr) (c : Nat) (w : World) (hp : NetR w w.heap.size p h) (hg : Good p) (hr : RowsIn w A c R V) :
    Calls Tryz.prog 13 #[netV p h, .slice A R.length c] w (StsPost w (stL p (heldS p R))) := by
  have P1 : Hid (AtRight w p h (w.alloc (.cells #[.int .i64 p.proto, .int .i64 p.cap, .int .i64 p.k, .slice h.an p.nodes.length h.cn, .slice h.al p.links.length h.cl, .slice h.ad p.dests.length h.cd, .slice h.ac p.checks.length h.cc] 30))) := Lib.hid (AtRight.begin hp)
  have HG := Lib.hid hg
  have NG := Lib.hid hg.netG
  have hn12 := hg.n12.2
  have hRm : R.length ≤ maxLen := Nat.le_trans hr.le hr.max
  unfold maxLen at hRm
  have HR := Lib.hid (hr.call ((Below.refl _ _).alloc (Nat.le_refl _) (.cells #[.int .i64 p.proto, .int .i64 p.cap, .int .i64 p.k, .slice h.an p.nodes.length h.cn, .slice h.al p.links.length h.cl, .slice h.ad p.dests.length h.cd, .slice h.ac p.checks.length h.cc] 30)))
  obtain ⟨i3, hi3, hz3, hs3, hb3⟩ := info_parts Tryz.info_rt
  clear hp hg hr
  unfold netV netVal
  go_enter Tryz.func13, Tryz.ntmps13
  go_wp2_with fail
  generalize w.alloc (.cells #[.int .i64 p.proto, .int .i64 p.cap, .int .i64 p.k, .slice h.an p.nodes.length h.cn, .slice h.al p.links.length h.cl, .slice h.ad p.dests.length h.cd, .slice h.ac p.checks.length h.cc] 30) = w1 at *
  go_loopw [5, 6] (fun sl si wx => ∃ (k : Nat) (L : List RtZ) (A : Option Addr) (c : Nat), k ≤ p.nodes.length ∧ L.length = k ∧ si = .int .i64 k ∧ sl = .slice A L.length c ∧ L.map (·.1) = (List.range k).map (heldS p R) ∧ LW w1 wx L A c) (fun _ si _ => p.nodes.length - (intOf si).toNat)
  case atStart => exact ⟨0, [], none, 0, Nat.zero_le _, rfl, rfl, rfl, rfl, LW.begin (Below.refl _ _)⟩
  case round =>
    obtain ⟨k, L, A0, c0', hk, hLk, rfl, rfl, hmap, hL⟩ := hrel
    have LX := Lib.hid hL
    have MX := Lib.hid hmap
    have HLk := Lib.hid hLk
    have hL12 : L.length ≤ 12 := by omega
    have P2 := Lib.hid (P1.out.call hL.below)
    have R2 := Lib.hid (HR.out.call hL.below)
    obtain ⟨c0, c1, c2', c3, c4, c5, c6⟩ := P2.out.all
    have hLs := hL.below.size
    clear hL hmap hLk
    by_cases hlt : k < p.nodes.length
    · have hk0 : (0 : Int) ≤ (k : Int) := by omega
      have LB := Lib.hid (LX.out.alloc (.cells #[.int .i64 0, .int .i64 0, .slice none 0 0] 48))
      have hsz : wr.heap.size < (wr.alloc (.cells #[.int .i64 0, .int .i64 0, .slice none 0 0] 48)).heap.size := by simp
      by_cases hkR : k < R.length
      · obtain ⟨z, hz⟩ : ∃ z, (R.zip V)[k]? = some z := ⟨_, List.getElem?_eq_getElem (by have := R2.out.len; rw [List.length_zip]; omega)⟩
        obtain ⟨b, o, rfl, hb, hc⟩ := R2.out.row.one (i := k) (x := rowV z) (by rw [List.getElem?_map, hz]; rfl)
        have IR := Lib.hid (R2.out.each z (List.mem_of_getElem? hz))
        have hz1 : R[k]? = some z.1 := (List.getElem?_zip_eq_some.1 (show (R.zip V)[k]? = some (z.1, z.2) from hz)).1
        have HS : Hid (heldS p R k = heldOne p k z.1) := Lib.hid (by unfold heldS; rw [hz1])
        have HZV := Lib.hid (show ((R.zip V).map rowV)[k]? = some (rowV z) from by rw [List.getElem?_map, hz]; rfl)
        unfold rowV at hc
        have hk1 : (k : Int) < (R.length : Int) := by omega
        clear hz hz1
        by_cases h3 : z.1.length % 3 = 0
        · have hq : ¬ (0 : Int) < (z.1.length : Int) % 3 := by omega
          have HM := Lib.hid (show (L ++ [((rtNone, (none, 0)) : RtZ)]).map (·.1) = (List.range (k + 1)).map (heldS p R) from by rw [List.map_append, MX.out, range_snoc, HS.out, heldOne_none h3]; rfl)
          clear h3
          go_wp2_with ((at_builtin; go_loud (refine wpList_app _ rfl _ _ 37 rfl (w1.heap.size) 48 i3 _ 3 40 Tryz.underlying37 hi3 hz3 hs3 hb3 rfl (by decide) _ _ _ (L.flatMap rtCells) rfl (LB.out.alloc _).row _ 1 _ (rtCells ((rtNone, (none, 0)) : RtZ)) rfl (Rd.new (by simp) rfl) ?h1 ?h63 ?hby ?hB ?_); go_loud (case h1 => intro u hu; simp [rtCells] at hu; rcases hu with rfl | rfl | rfl <;> rfl); go_loud (case h63 => unfold maxLen; omega); go_loud (case hby => omega); go_loud (case hB => have := LB.out.below.size; simp; omega); intro A2 c2 w5 hown2 hgrow2 hblk2 _; go_loud (have L5 := Lib.hid (LW.app (z := ((rtNone, (none, 0)) : RtZ)) (LB.out.alloc _) (show w1.heap.size ≤ wr.heap.size from hLs) (OwnOr.alloc (B := wr.heap.size) (.inr ⟨rfl, Nat.zero_le _⟩) _) (by rfl) hgrow2 hown2))); clear hown2 hgrow2 hblk2)
          go_roundw
          case rel => exact ⟨k + 1, _, A2, c2, by omega, by have := HLk.out; simp; omega, by go_num, by simp, HM.out, L5.out⟩
          case measure => simp [intOf]; omega
        · have hq : (0 : Int) < (z.1.length : Int) % 3 := by omega
          have HM := Lib.hid (show ∀ q, (L ++ [((heldR p k z.1, q) : RtZ)]).map (·.1) = (List.range (k + 1)).map (heldS p R) from fun q => by rw [List.map_append, MX.out, range_snoc, HS.out, heldOne_some h3]; rfl)
          clear h3
          have HC : Hid (∀ wy, Below wr.heap.size wr wy → wy.cell? ⟨w.heap.size, 0, none⟩ = some (.int .i64 p.proto) ∧ wy.cell? ⟨w.heap.size, 1, none⟩ = some (.int .i64 p.cap) ∧ wy.cell? ⟨w.heap.size, 2, none⟩ = some (.int .i64 p.k) ∧ wy.cell? ⟨w.heap.size, 3, none⟩ = some (.slice h.an p.nodes.length h.cn) ∧ wy.cell? ⟨w.heap.size, 4, none⟩ = some (.slice h.al p.links.length h.cl) ∧ wy.cell? ⟨w.heap.size, 5, none⟩ = some (.slice h.ad p.dests.length h.cd) ∧ wy.cell? ⟨w.heap.size, 6, none⟩ = some (.slice h.ac p.checks.length h.cc) ∧ wy.cell? ⟨b, o + k, none⟩ = some (.slice z.2.1 z.1.length z.2.2)) := Lib.hid (fun wy hb' => by
            obtain ⟨q0, q1, q2, q3, q4, q5, q6⟩ := (P2.out.call hb').all
            exact ⟨q0, q1, q2, q3, q4, q5, q6, (hb'.cell (p := ⟨b, o + k, none⟩) hb).trans hc⟩)
          have hB0 := (Bl.begin wr).push rfl (.cells #[.int .i64 0, .int .i64 0, .slice none 0 0] 48)
          rw [List.nil_append] at hB0
          have HB0 := Lib.hid hB0
          have CH : Hid (∀ wy, Bl wr wy [.cells #[.int .i64 0, .int .i64 0, .slice none 0 0] 48] → Calls Tryz.prog 26 #[.agg #[.int .i64 p.proto, .int .i64 p.cap, .int .i64 p.k, .slice h.an p.nodes.length h.cn, .slice h.al p.links.length h.cl, .slice h.ad p.dests.length h.cd, .slice h.ac p.checks.length h.cc], .int .i64 (k : Int), .slice z.2.1 z.1.length z.2.2] wy fun e w' => ∃ A5 c5, e = .returned (.agg #[.int .i64 (heldR p k z.1).kind, .int .i64 (heldR p k z.1).cost, .slice A5 (heldR p k z.1).path.length c5]) ∧ OwnOr w' (wr.heap.size + 1) A5 c5 (heldR p k z.1).path ∧ Bl wr w' [.cells #[.int .i64 0, .int .i64 0, .slice none 0 0] 48]) := Lib.hid (fun wy a =>
            (held_any p h k z.1 z.2.1 z.2.2 wy (P2.out.call a.below).net NG.out hlt (IR.out.call a.below).rd IR.out.in64 IR.out.len).mono fun e w' ⟨A5, c5, h1, h2, h3⟩ => ⟨A5, c5, h1, .inl (h2.more (by have := a.lt (i := 0) (by simp); omega)), a.call h3⟩)
          generalize heldR p k z.1 = r at *
          go_upto_region 7 with fail
          clear hc c0 c1 c2' c3 c4 c5 c6 hB0
          have hBd := HB0.out.drew
          refine wp_region_held_drew (S := (fun wy => wy.cell? ⟨w.heap.size, 0, none⟩ = some (.int .i64 p.proto) ∧ wy.cell? ⟨w.heap.size, 1, none⟩ = some (.int .i64 p.cap) ∧ wy.cell? ⟨w.heap.size, 2, none⟩ = some (.int .i64 p.k) ∧ wy.cell? ⟨w.heap.size, 3, none⟩ = some (.slice h.an p.nodes.length h.cn) ∧ wy.cell? ⟨w.heap.size, 4, none⟩ = some (.slice h.al p.links.length h.cl) ∧ wy.cell? ⟨w.heap.size, 5, none⟩ = some (.slice h.ad p.dests.length h.cd) ∧ wy.cell? ⟨w.heap.size, 6, none⟩ = some (.slice h.ac p.checks.length h.cc) ∧ wy.cell? ⟨b, o + k, none⟩ = some (.slice z.2.1 z.1.length z.2.2))) (by kernel_rfl) (HC.out _ hBd.below) (fun hHeld0 => ?_)
          refine take_list (i := 0) (v := ?_) rfl (by kernel_rfl) (by kernel_rfl) (by kernel_rfl) (fun _ _ _ h => h) (Or.inl ⟨by rfl, ?_⟩) (by assumption) ?_
          rotate_left
          · (intro w hSw; (try dsimp only at hSw); go_simp; try (with_reducible rfl))
          try simp only [Act.put, List.setIfInBounds_toArray, List.set_cons_zero, List.set_cons_succ]
          refine take_list (i := 1) (v := ?_) rfl (by kernel_rfl) (by kernel_rfl) (by kernel_rfl) (fun _ _ _ h => h) (Or.inl ⟨by rfl, ?_⟩) (by assumption) ?_
          rotate_left
          · (intro w hSw; (try dsimp only at hSw); go_simp; try (with_reducible rfl))
          try simp only [Act.put, List.setIfInBounds_toArray, List.set_cons_zero, List.set_cons_succ]
          refine take_list (i := 2) (v := ?_) rfl (by kernel_rfl) (by kernel_rfl) (by kernel_rfl) (fun _ _ _ h => h) (Or.inl ⟨by rfl, ?_⟩) (by assumption) ?_
          rotate_left
          · (intro w hSw; (try dsimp only at hSw); go_simp; try (with_reducible rfl))
          try simp only [Act.put, List.setIfInBounds_toArray, List.set_cons_zero, List.set_cons_succ]
          refine take_list (i := 3) (v := ?_) rfl (by kernel_rfl) (by kernel_rfl) (by kernel_rfl) (fun _ _ _ h => h) (Or.inl ⟨by rfl, ?_⟩) (by assumption) ?_
          rotate_left
          · (intro w hSw; (try dsimp only at hSw); go_simp; try (with_reducible rfl))
          try simp only [Act.put, List.setIfInBounds_toArray, List.set_cons_zero, List.set_cons_succ]
          refine take_list (i := 4) (v := ?_) rfl (by kernel_rfl) (by kernel_rfl) (by kernel_rfl) (fun _ _ _ h => h) (Or.inl ⟨by rfl, ?_⟩) (by assumption) ?_
          rotate_left
          · (intro w hSw; (try dsimp only at hSw); go_simp; try (with_reducible rfl))
          try simp only [Act.put, List.setIfInBounds_toArray, List.set_cons_zero, List.set_cons_succ]
          refine take_list (i := 5) (v := ?_) rfl (by kernel_rfl) (by kernel_rfl) (by kernel_rfl) (fun _ _ _ h => h) (Or.inl ⟨by rfl, ?_⟩) (by assumption) ?_
          rotate_left
          · (intro w hSw; (try dsimp only at hSw); go_simp; try (with_reducible rfl))
          try simp only [Act.put, List.setIfInBounds_toArray, List.set_cons_zero, List.set_cons_succ]
          refine wpAnyH_ready (rs := [6]) (by kernel_rfl) (by simp) ?_
          refine cons_list rfl (fun K hK => ?_) AllReadyH.nil
          go_simp
          (go_at_call 26; refine (CH.out _ hBd).mono ?_; rintro e w4 ⟨A5, c5, rfl, ho5, hB5⟩; have kz := hB5.at_ 0 _ rfl; rw [Nat.add_zero] at kz; have kr0 := cell_of_row w4 _ 0 _ _ _ kz; have kr1 := cell_of_row w4 _ 1 _ _ _ kz; have kr2 := cell_of_row w4 _ 2 _ _ _ kz; have kf0 := frozen_of_row w4 _ 0 _ _ kz; have kf1 := frozen_of_row w4 _ 1 _ _ kz; have kf2 := frozen_of_row w4 _ 2 _ _ kz; have hB6 := ((hB5.below.setCell (p := ⟨wr.heap.size, 0, none⟩) (Nat.le_refl _) (.int .i64 r.kind)).setCell (p := ⟨wr.heap.size, 1, none⟩) (Nat.le_refl _) (.int .i64 r.cost)).setCell (p := ⟨wr.heap.size, 2, none⟩) (Nat.le_refl _) (.slice A5 r.path.length c5))
          refine hK.out _ _ (HC.out _ (by first | exact hB5.below | exact hB6)) (fun hHeld1 => ?_)
          clear hK K hHeld0
          try simp only [Act.put, List.setIfInBounds_toArray, List.set_cons_zero, List.set_cons_succ]
          refine wpAnyH_ready (rs := [7]) (by kernel_rfl) (by simp) ?_
          refine cons_list rfl (fun K hK => ?_) AllReadyH.nil
          go_simp
          refine hK.out _ _ (HC.out _ (by first | exact hB5.below | exact hB6)) (fun hHeld2 => ?_)
          clear hK K hHeld1
          try simp only [Act.put, List.setIfInBounds_toArray, List.set_cons_zero, List.set_cons_succ]
          refine wpAnyH_done (by kernel_rfl) ?_ _
          clear hHeld2
          have hbx := box_put (k := r.kind) (co := r.cost) kz ho5 (Nat.lt_succ_self _) (Nat.le_refl _)
          obtain ⟨hbx, ho6⟩ := hbx
          have HO6 := Lib.hid ho6
          have L6 := Lib.hid (LX.out.call hB6)
          clear kz kr0 kr1 kr2 kf0 kf1 kf2 ho5 hB5 hBd
          generalize (((w4.setCell ⟨wr.heap.size, 0, none⟩ (.int .i64 r.kind)).setCell ⟨wr.heap.size, 1, none⟩ (.int .i64 r.cost)).setCell ⟨wr.heap.size, 2, none⟩ (.slice A5 r.path.length c5)) = w6 at *
          have kr0 := cell_of_row w6 _ 0 _ _ _ hbx
          have kr1 := cell_of_row w6 _ 1 _ _ _ hbx
          have kr2 := cell_of_row w6 _ 2 _ _ _ hbx
          clear hB6 hbx ho6
          go_wp2_with ((at_builtin; go_loud (refine wpList_app _ rfl _ _ 37 rfl (w1.heap.size) 48 i3 _ 3 40 Tryz.underlying37 hi3 hz3 hs3 hb3 rfl (by decide) _ _ _ (L.flatMap rtCells) rfl (L6.out.alloc _).row _ 1 _ (rtCells ((r, (A5, c5)) : RtZ)) rfl (Rd.new (by simp) rfl) ?h1 ?h63 ?hby ?hB ?_); go_loud (case h1 => intro u hu; simp [rtCells] at hu; rcases hu with rfl | rfl | rfl <;> rfl); go_loud (case h63 => unfold maxLen; omega); go_loud (case hby => omega); go_loud (case hB => have := L6.out.below.size; simp; omega); intro A2 c2 w5 hown2 hgrow2 hblk2 _; go_loud (have L7 := Lib.hid (LW.app (z := ((r, (A5, c5)) : RtZ)) (L6.out.alloc _) (show w1.heap.size ≤ wr.heap.size + 1 by omega) (OwnOr.alloc HO6.out _) (by rfl) hgrow2 hown2))); clear hown2 hgrow2 hblk2)
          go_roundw
          case rel => exact ⟨k + 1, _, A2, c2, by omega, by have := HLk.out; simp; omega, by go_num, by simp, HM.out _, L7.out⟩
          case measure => simp [intOf]; omega
      · have HS : Hid (heldS p R k = rtNone) := Lib.hid (by unfold heldS; rw [List.getElem?_eq_none (by omega)])
        have HM := Lib.hid (show (L ++ [((rtNone, (none, 0)) : RtZ)]).map (·.1) = (List.range (k + 1)).map (heldS p R) from by rw [List.map_append, MX.out, range_snoc, HS.out]; rfl)
        have hk1 : ¬ (k : Int) < (R.length : Int) := by omega
        go_wp2_with ((at_builtin; go_loud (refine wpList_app _ rfl _ _ 37 rfl (w1.heap.size) 48 i3 _ 3 40 Tryz.underlying37 hi3 hz3 hs3 hb3 rfl (by decide) _ _ _ (L.flatMap rtCells) rfl (LB.out.alloc _).row _ 1 _ (rtCells ((rtNone, (none, 0)) : RtZ)) rfl (Rd.new (by simp) rfl) ?h1 ?h63 ?hby ?hB ?_); go_loud (case h1 => intro u hu; simp [rtCells] at hu; rcases hu with rfl | rfl | rfl <;> rfl); go_loud (case h63 => unfold maxLen; omega); go_loud (case hby => omega); go_loud (case hB => have := LB.out.below.size; simp; omega); intro A2 c2 w5 hown2 hgrow2 hblk2 _; go_loud (have L5 := Lib.hid (LW.app (z := ((rtNone, (none, 0)) : RtZ)) (LB.out.alloc _) (show w1.heap.size ≤ wr.heap.size from hLs) (OwnOr.alloc (B := wr.heap.size) (.inr ⟨rfl, Nat.zero_le _⟩) _) (by rfl) hgrow2 hown2))); clear hown2 hgrow2 hblk2)
        go_roundw
        case rel => exact ⟨k + 1, _, A2, c2, by omega, by have := HLk.out; simp; omega, by go_num, by simp, HM.out, L5.out⟩
        case measure => simp [intOf]; omega
    · have hkN : k = p.nodes.length := by omega
      have HF : Hid (StsPost w (stL p (heldS p R)) (.returned (.slice A0 L.length c0')) wr) := Lib.hid ⟨L, A0, c0', rfl, by rw [MX.out, hkN]; rfl, LX.out.since P1.out.below⟩
      clear hkN
      go_wp2
      go_ret
      exact HF.out
end

section
attribute [local go_sem ↓] Go.wp_at_zero Go.wp_at_succ
set_option maxRecDepth 100000 in
set_option maxHeartbeats 2000000 in
theorem refSame9_any (Z Y : List RtZ) (A A' : Option Addr) (c c' : Nat) (w : World) (h : RtsR w w.heap.size Z A) (h' : RtsR w w.heap.size Y A') (hl : Z.length ≤ 1000) (hm : Y.length ≤ 1000) :
    Calls Tryz.prog 12 #[.slice A Z.length c, .slice A' Y.length c'] w fun e w' => e = .returned (.bool (decide (Z.map (·.1) = Y.map (·.1)))) ∧ Below w.heap.size w w' := by
  have H := Lib.hid h
  have H' := Lib.hid h'
  clear h h'
  by_cases he : Z.length = Y.length
  · have hq : ((Z.length : Int) != (Y.length : Int)) = false := by simp [he]
    have HE := Lib.hid he
    clear he
    go_enter Tryz.func12, Tryz.ntmps12
    go_wp2_with fail
    go_loopw [5] (fun si wx => ∃ k : Nat, k ≤ Z.length ∧ si = .int .i64 k ∧ (Z.map (·.1)).take k = (Y.map (·.1)).take k ∧ Below w.heap.size w wx) (fun si _ => Z.length - (intOf si).toNat)
    case atStart => exact ⟨0, Nat.zero_le _, rfl, rfl, Below.refl _ _⟩
    case round =>
      obtain ⟨k, hk, rfl, htk, hB⟩ := hrel
      have TK := Lib.hid htk
      have BX := Lib.hid hB
      by_cases hlt : k < Z.length
      · obtain ⟨z, hz⟩ : ∃ z, Z[k]? = some z := ⟨_, List.getElem?_eq_getElem hlt⟩
        obtain ⟨y, hy⟩ : ∃ y, Y[k]? = some y := ⟨_, List.getElem?_eq_getElem (by have := HE.out; omega)⟩
        obtain ⟨b, o, rfl, hb, z0, z1, z2⟩ := H.out.at_ hz
        obtain ⟨b', o', rfl, hb', y0, y1, y2⟩ := H'.out.at_ hy
        have HRZ := Lib.hid (H.out.each z (List.mem_of_getElem? hz))
        have HRY := Lib.hid (H'.out.each y (List.mem_of_getElem? hy))
        have ez : (Z.map (·.1))[k]? = some z.1 := by rw [List.getElem?_map, hz]; rfl
        have ey : (Y.map (·.1))[k]? = some y.1 := by rw [List.getElem?_map, hy]; rfl
        have HS : Hid (z.1 = y.1 → (Z.map (·.1)).take (k + 1) = (Y.map (·.1)).take (k + 1)) := Lib.hid (fun e => by
          rw [List.take_add_one, List.take_add_one, ez, ey, TK.out, e])
        have HN : Hid (z.1 ≠ y.1 → Z.map (·.1) ≠ Y.map (·.1)) := Lib.hid (fun e e' => by
          rw [e', ey] at ez; injection ez with ez; exact e ez.symm)
        have HC : Hid (∀ wy, Below w.heap.size w wy → (wy.cell? ⟨b, o + k * 3, none⟩ = some (.int .i64 z.1.kind) ∧ wy.cell? ⟨b, o + k * 3 + 1, none⟩ = some (.int .i64 z.1.cost) ∧ wy.cell? ⟨b, o + k * 3 + 2, none⟩ = some (.slice z.2.1 z.1.path.length z.2.2)) ∧ wy.cell? ⟨b', o' + k * 3, none⟩ = some (.int .i64 y.1.kind) ∧ wy.cell? ⟨b', o' + k * 3 + 1, none⟩ = some (.int .i64 y.1.cost) ∧ wy.cell? ⟨b', o' + k * 3 + 2, none⟩ = some (.slice y.2.1 y.1.path.length y.2.2)) := Lib.hid (fun wy hb2 =>
          ⟨⟨(hb2.cell (p := ⟨b, _, none⟩) hb).trans z0, (hb2.cell (p := ⟨b, _, none⟩) hb).trans z1, (hb2.cell (p := ⟨b, _, none⟩) hb).trans z2⟩, (hb2.cell (p := ⟨b', _, none⟩) hb').trans y0, (hb2.cell (p := ⟨b', _, none⟩) hb').trans y1, (hb2.cell (p := ⟨b', _, none⟩) hb').trans y2⟩)
        have CS : Hid (∀ wy, Below w.heap.size w wy → Calls Tryz.prog 25 #[.agg #[.int .i64 z.1.kind, .int .i64 z.1.cost, .slice z.2.1 z.1.path.length z.2.2], .agg #[.int .i64 y.1.kind, .int .i64 y.1.cost, .slice y.2.1 y.1.path.length y.2.2]] wy fun e w' => e = .returned (.bool (decide (z.1 = y.1))) ∧ Below w.heap.size w w') := Lib.hid (fun wy hb2 =>
          (refSame_any z.1 y.1 z.2.1 y.2.1 z.2.2 y.2.2 wy ((HRZ.out.below hb2 (Nat.le_refl _)).more hb2.size) ((HRY.out.below hb2 (Nat.le_refl _)).more hb2.size)).mono fun e w' ⟨h1, h2⟩ => ⟨h1, since_trans hb2 h2⟩)
        have HQ : Hid ((decide (z.1 = y.1) = true → z.1 = y.1) ∧ (decide (z.1 = y.1) = false → z.1 ≠ y.1)) := Lib.hid ⟨of_decide_eq_true, of_decide_eq_false⟩
        generalize decide (z.1 = y.1) = q at *
        have hk0 : (0 : Int) ≤ (k : Int) := by omega
        have hkY : (k : Int) < (Y.length : Int) := by have := HE.out; omega
        have hkY' : k < Y.length := by omega
        clear hz hy htk ez ey z0 z1 z2 y0 y1 y2 hb hb'
        go_upto_region 6 with fail
        have hBd := below_drew hB
        refine wp_region_held_drew (S := (fun wy => (wy.cell? ⟨b, o + k * 3, none⟩ = some (.int .i64 z.1.kind) ∧ wy.cell? ⟨b, o + k * 3 + 1, none⟩ = some (.int .i64 z.1.cost) ∧ wy.cell? ⟨b, o + k * 3 + 2, none⟩ = some (.slice z.2.1 z.1.path.length z.2.2)) ∧ wy.cell? ⟨b', o' + k * 3, none⟩ = some (.int .i64 y.1.kind) ∧ wy.cell? ⟨b', o' + k * 3 + 1, none⟩ = some (.int .i64 y.1.cost) ∧ wy.cell? ⟨b', o' + k * 3 + 2, none⟩ = some (.slice y.2.1 y.1.path.length y.2.2))) (by kernel_rfl) (HC.out _ hBd) (fun hHeld0 => ?_)
        refine take_list (i := 0) (v := ?_) rfl (by kernel_rfl) (by kernel_rfl) (by kernel_rfl) (fun _ _ _ h => h) (Or.inl ⟨by rfl, ?_⟩) (by assumption) ?_
        rotate_left
        · (intro w hSw; (try dsimp only at hSw); go_simp; try (with_reducible rfl))
        try simp only [Act.put, List.setIfInBounds_toArray, List.set_cons_zero, List.set_cons_succ]
        refine take_list (i := 1) (v := ?_) rfl (by kernel_rfl) (by kernel_rfl) (by kernel_rfl) (fun _ _ _ h => h) (Or.inl ⟨by rfl, ?_⟩) (by assumption) ?_
        rotate_left
        · (intro w hSw; (try dsimp only at hSw); go_simp; try (with_reducible rfl))
        try simp only [Act.put, List.setIfInBounds_toArray, List.set_cons_zero, List.set_cons_succ]
        refine take_list (i := 2) (v := ?_) rfl (by kernel_rfl) (by kernel_rfl) (by kernel_rfl) (fun _ _ _ h => h) (Or.inl ⟨by rfl, ?_⟩) (by assumption) ?_
        rotate_left
        · (intro w hSw; (try dsimp only at hSw); go_simp; try (with_reducible rfl))
        try simp only [Act.put, List.setIfInBounds_toArray, List.set_cons_zero, List.set_cons_succ]
        refine take_list (i := 3) (v := ?_) rfl (by kernel_rfl) (by kernel_rfl) (by kernel_rfl) (fun _ _ _ h => h) (Or.inl ⟨by rfl, ?_⟩) (by assumption) ?_
        rotate_left
        · (intro w hSw; (try dsimp only at hSw); go_simp; try (with_reducible rfl))
        try simp only [Act.put, List.setIfInBounds_toArray, List.set_cons_zero, List.set_cons_succ]
        refine take_list (i := 4) (v := ?_) rfl (by kernel_rfl) (by kernel_rfl) (by kernel_rfl) (fun _ _ _ h => h) (Or.inl ⟨by rfl, ?_⟩) (by assumption) ?_
        rotate_left
        · (intro w hSw; (try dsimp only at hSw); go_simp; try (with_reducible rfl))
        try simp only [Act.put, List.setIfInBounds_toArray, List.set_cons_zero, List.set_cons_succ]
        refine take_list (i := 5) (v := ?_) rfl (by kernel_rfl) (by kernel_rfl) (by kernel_rfl) (fun _ _ _ h => h) (Or.inl ⟨by rfl, ?_⟩) (by assumption) ?_
        rotate_left
        · (intro w hSw; (try dsimp only at hSw); go_simp; try (with_reducible rfl))
        try simp only [Act.put, List.setIfInBounds_toArray, List.set_cons_zero, List.set_cons_succ]
        refine take_list (i := 6) (v := ?_) rfl (by kernel_rfl) (by kernel_rfl) (by kernel_rfl) (fun _ _ _ h => h) (Or.inl ⟨by rfl, ?_⟩) (by assumption) ?_
        rotate_left
        · (intro w hSw; (try dsimp only at hSw); go_simp; try (with_reducible rfl))
        try simp only [Act.put, List.setIfInBounds_toArray, List.set_cons_zero, List.set_cons_succ]
        refine take_list (i := 7) (v := ?_) rfl (by kernel_rfl) (by kernel_rfl) (by kernel_rfl) (fun _ _ _ h => h) (Or.inl ⟨by rfl, ?_⟩) (by assumption) ?_
        rotate_left
        · (intro w hSw; (try dsimp only at hSw); go_simp; try (with_reducible rfl))
        try simp only [Act.put, List.setIfInBounds_toArray, List.set_cons_zero, List.set_cons_succ]
        refine wpAnyH_ready (rs := [8]) (by kernel_rfl) (by simp) ?_
        refine cons_list rfl (fun K hK => ?_) AllReadyH.nil
        go_simp
        (go_at_call 25; refine (CS.out _ hBd).mono ?_; rintro e w4 ⟨rfl, hB4⟩)
        refine hK.out _ _ (HC.out _ (by assumption)) (fun hHeld1 => ?_)
        clear hK K hHeld0
        try simp only [Act.put, List.setIfInBounds_toArray, List.set_cons_zero, List.set_cons_succ]
        refine take_list (i := 9) (v := ?_) rfl (by kernel_rfl) (by kernel_rfl) (by kernel_rfl) (fun _ _ _ h => h) (Or.inl ⟨by rfl, ?_⟩) (by assumption) ?_
        rotate_left
        · (intro w hSw; (try dsimp only at hSw); go_simp; try (with_reducible rfl))
        try simp only [Act.put, List.setIfInBounds_toArray, List.set_cons_zero, List.set_cons_succ]
        refine wpAnyH_done (by kernel_rfl) ?_ _
        clear hHeld1
        have B4 := Lib.hid hB4
        clear hB4 hBd hB
        cases q with
        | true =>
          have HT := Lib.hid (HS.out (HQ.out.1 rfl))
          go_wp2
          go_roundw
          case rel => exact ⟨k + 1, by omega, by go_num, HT.out, B4.out⟩
          case measure => simp [intOf]; omega
        | false =>
          have HT := Lib.hid (HN.out (HQ.out.2 rfl))
          go_wp2
          go_ret
          exact ⟨ret_bool (decide_eq_false HT.out).symm, B4.out⟩
      · have HF := Lib.hid (show Z.map (·.1) = Y.map (·.1) from by
          have h1 := TK.out
          rwa [List.take_of_length_le (by simp; omega), List.take_of_length_le (by have := HE.out; simp; omega)] at h1)
        clear htk hB
        go_wp2
        go_ret
        exact ⟨ret_bool (by simp [HF.out]), BX.out⟩
  · have hq : ((Z.length : Int) != (Y.length : Int)) = true := by simp; omega
    have HN := Lib.hid (show Z.map (·.1) ≠ Y.map (·.1) from fun e => he (by have := congrArg List.length e; simpa using this))
    clear he
    go_enter Tryz.func12, Tryz.ntmps12
    go_wp2
    go_ret
    exact ⟨ret_bool (by simp [HN.out]), Below.refl _ _⟩
end
end Go.Proofs.YtakolnmoieiicaaGreat

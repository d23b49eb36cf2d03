/- The walk of backstaylaw09.RoundWays. -/
import Derived.Test.YtifjppkgbalcpaaGreatLaw9
import Derived.Test.YtifjppkgbalcpaaGreatRef7v
namespace Go.Proofs.YtifjppkgbalcpaaGreat
set_option linter.unusedSimpArgs false
set_option linter.unusedVariables false
open Go.RowKit

theorem cand_kind {p : Net} (G : NetG p) {f d : Int} {l : St} {i : Nat} {x : Rt} (h : x ∈ candF p f d l i) : KindOk x := (cand_holds G h).1.kind
/-- The answer, out of what was gathered. -/
theorem best_or {w w1 wr w5 : World} {p : Net} {h : Hd} {L : List RtZ} {A : Option Addr} {c : Nat} {f d : Int} {l : St} {i : Nat} {G : NetG p} (hw : w.heap.size + 2 ≤ w1.heap.size) (hL : LW w1 wr L A c) (hb : Below wr.heap.size wr w5) (hP : Below w.heap.size w w5)
    (hm : L.map (·.1) = candF p f d l i) :
    OrPost (stepF p f d l i) w (.returned (.agg #[.int .i64 (rbestL L).1.kind, .int .i64 (rbestL L).1.cost, .slice (rbestL L).2.1 (rbestL L).1.path.length (rbestL L).2.2]))
      (((w5.setCell ⟨w.heap.size + 1, 0, none⟩ (.int .i64 (rbestL L).1.kind)).setCell ⟨w.heap.size + 1, 1, none⟩ (.int .i64 (rbestL L).1.cost)).setCell ⟨w.heap.size + 1, 2, none⟩ (.slice (rbestL L).2.1 (rbestL L).1.path.length (rbestL L).2.2)) := by
  have hk : ∀ x ∈ L, KindOk x.1 := fun x hx => cand_kind G (by rw [← hm]; exact List.mem_map.2 ⟨x, hx, rfl⟩)
  have e : (rbestL L).1 = stepF p f d l i := by rw [rbestL_fst hk, hm]; rfl
  rw [← e]
  refine ⟨_, _, rfl, ?_, ((hP.setCell (Nat.le_succ _) _).setCell (Nat.le_succ _) _).setCell (Nat.le_succ _) _⟩
  have ho : OwnOr w5 w1.heap.size (rbestL L).2.1 (rbestL L).2.2 (rbestL L).1.path := by
    rcases rbestL_mem L with q | q
    · rw [q]; exact .inr ⟨rfl, Nat.zero_le _⟩
    · exact (hL.each _ q).call hb
  exact (((ho.far (q := ⟨w.heap.size + 1, 0, none⟩) (by show w.heap.size + 1 < _; omega) _).far (q := ⟨w.heap.size + 1, 1, none⟩) (by show w.heap.size + 1 < _; omega) _).far (q := ⟨w.heap.size + 1, 2, none⟩) (by show w.heap.size + 1 < _; omega) _).more (by omega)

attribute [local go_sem ↓] Go.wp_at_zero Go.wp_at_succ
set_option maxRecDepth 100000 in
set_option maxHeartbeats 8000000 in
theorem best9_any (p : Net) (h : Hd) (hg : Good p) (f d : Int) : ∀ (m : Nat) (hm : m ≤ 4) (n : Nat) (w : World) (hn : n < p.nodes.length) (hp : NetR w w.heap.size p h),
    Calls Tryz.prog 14 #[netV p h, .int .i64 f, .int .i64 d, .int .i64 (n : Int), .int .i64 (m : Int)] w (OrPost (runF p f d m n) w) := by
  have HG := Lib.hid hg
  have NG := Lib.hid hg.netG
  have hl16 := hg.l16
  clear hg
  intro m
  induction m with
  | zero =>
    intro hm n w hn hp
    have PX : Hid (PR w ((w.alloc (.cells (netCells p h) 29)).alloc (.cells #[.int .i64 0, .int .i64 0, .slice none 0 0] 36)) p h rtNone none 0) := Lib.hid (PR.begin hp rtR_nil)
    have HOP := Lib.hid (ownR_nil p d n)
    have HRUN : Hid (runF p f d 0 n = ownR p d n) := Lib.hid rfl
    obtain ⟨m0, hm0⟩ : ∃ r, runF p f d 0 n = r := ⟨_, rfl⟩
    unfold netV netVal
    clear hp
    go_enter Tryz.func14, Tryz.ntmps14
    go_wp2_with fail
    refine (rown_any p h d n _ PX.out.net HG.out.small).mono ?_
    rintro e w1 ⟨rfl, hb1⟩
    rw [rown_good HG.out.right]
    have P1 := Lib.hid (PX.out.call hb1)
    have L1 := Lib.hid (LW.one (Below.refl w1.heap.size w1) (z := (ownR p d n, (none, 0))) (B := w1.heap.size) (.inr ⟨HOP.out, Nat.zero_le _⟩) (Nat.le_refl _))
    have hw1 : w.heap.size + 2 ≤ w1.heap.size := P1.out.size
    generalize ownR p d n = oo at *
    have P2 := Lib.hid (P1.out.call ((Below.refl _ _).alloc (Nat.le_refl _) (.cells #[.int .i64 oo.kind, .int .i64 oo.cost, .slice none oo.path.length 0] 36)))
    clear hb1
    unfold rtV
    go_wp2_with fail
    refine (refBest_any [((oo, (none, 0)) : RtZ)] (some ⟨w1.heap.size, 0, none⟩) 1 _ L1.out.rts (by simp)).mono ?_
    rintro e w5 ⟨rfl, hb5⟩
    have P5 := Lib.hid (P2.out.call hb5)
    obtain ⟨hfz, ⟨r0, r1, r2⟩, ⟨f0, f1, f2⟩⟩ := rt_put (b := w.heap.size + 1) P5.out.below (Nat.le_succ _) P5.out.box (.int .i64 oo.kind) (.int .i64 oo.cost) (.slice none oo.path.length 0)
    have hrb : rbestL [((oo, (none, 0)) : RtZ)] = (oo, (none, 0)) := rfl
    rw [hrb]
    have HF : Hid (OrPost (runF p f d 0 n) w (.returned (.agg #[.int .i64 oo.kind, .int .i64 oo.cost, .slice none oo.path.length 0])) (((w5.setCell ⟨w.heap.size + 1, 0, none⟩ (.int .i64 oo.kind)).setCell ⟨w.heap.size + 1, 1, none⟩ (.int .i64 oo.cost)).setCell ⟨w.heap.size + 1, 2, none⟩ (.slice none oo.path.length 0))) := Lib.hid (by
      rw [HRUN.out]
      exact ⟨none, 0, rfl, .inr ⟨HOP.out, Nat.zero_le _⟩, hfz⟩)
    clear hb5 hfz hrb
    go_wp2
    exact bodyPost_ret (v := .agg #[.int .i64 oo.kind, .int .i64 oo.cost, .slice none oo.path.length 0]) (by simp [results, Tryz.results14, go_sem, r0, r1, r2]) rfl HF.out
  | succ m ih =>
    intro hm n w hn hp
    have IH := Lib.hid (ih (by omega))
    rw [show ((m + 1 : Nat) : Int) = (m : Int) + 1 from by omega]
    have PX : Hid (PR w ((w.alloc (.cells (netCells p h) 29)).alloc (.cells #[.int .i64 0, .int .i64 0, .slice none 0 0] 36)) p h rtNone none 0) := Lib.hid (PR.begin hp rtR_nil)
    have HOP := Lib.hid (ownR_nil p d n)
    obtain ⟨i3, hi3, hz3, hs3, hb3⟩ := info_parts Tryz.info_rt
    have HRUN : Hid (runF p f d (m + 1) n = stepF p f d (runF p f d m) n) := Lib.hid rfl
    have HCA : Hid (candF p f d (runF p f d m) n = ownR p d n :: (arL p.links f n p.links.length).map (fun (k : Nat) => overR p k n (runF p f d m (othL p.links k n).toNat))) := Lib.hid rfl
    unfold netV netVal
    clear hp ih
    generalize hso : runF p f d (m + 1) n = so at *
    go_enter Tryz.func14, Tryz.ntmps14
    go_wp2_with fail
    refine (rown_any p h d n _ PX.out.net HG.out.small).mono ?_
    rintro e w1 ⟨rfl, hb1⟩
    rw [rown_good HG.out.right]
    have P1 := Lib.hid (PX.out.call hb1)
    have hw1 : w.heap.size + 2 ≤ w1.heap.size := P1.out.size
    generalize hoo : ownR p d n = oo at *
    have L1 := Lib.hid (LW.one (Below.refl w1.heap.size w1) (z := (oo, (none, 0))) (B := w1.heap.size) (.inr ⟨HOP.out, Nat.zero_le _⟩) (Nat.le_refl _))
    have P2 := Lib.hid (P1.out.call ((Below.refl _ _).alloc (Nat.le_refl _) (.cells #[.int .i64 oo.kind, .int .i64 oo.cost, .slice none oo.path.length 0] 36)))
    obtain ⟨c0, c1, c2, c3, c4, c5, c6⟩ := P2.out.all
    clear hb1 hoo hso
    unfold rtV
    go_wp2_with fail
    refine (aroundX_any p h f n _ P2.out.net HG.out).mono ?_
    rintro e w3 ⟨Aa, ca, rfl, hoa, hb3'⟩
    have N3 := Lib.hid (⟨L1.out.call hb3', hoa.more (by simp)⟩ : NdW w1 w3 [((oo, (none, 0)) : RtZ)] (some ⟨w1.heap.size, 0, none⟩) 1 w1.heap.size Aa ca (arL p.links f n p.links.length))
    have HAR : Hid (∀ k ∈ arL p.links f n p.links.length, ∃ u : Nat, othL p.links k n = u ∧ u < p.nodes.length) := Lib.hid (fun k hk => by
      obtain ⟨h1, h2⟩ := mem_arL.1 hk
      have hx : p.links[k]? = some p.links[k] := List.getElem?_eq_getElem h1
      obtain ⟨q, hq, hqN, -⟩ := ar_oth HG.out.lksOk hx h2
      exact ⟨q, by unfold othL; simp [hx, hq], hqN⟩)
    have hal := arL_le p.links f n p.links.length
    generalize arL p.links f n p.links.length = ar at *
    clear hoa hb3' c0 c1 c2 c3 c4 c5 c6
    go_wp2_with fail
    go_loopw [11, 13] (fun sl si wx => ∃ (j : Nat) (L : List RtZ) (A' : Option Addr) (c' : Nat), j ≤ ar.length ∧ si = .int .i64 j ∧ sl = .slice A' L.length c' ∧ L.length = j + 1 ∧ L.map (·.1) = oo :: (ar.take j).map (fun (k : Nat) => overR p k n (runF p f d m (othL p.links k n).toNat)) ∧ NdW w1 wx L A' c' w1.heap.size Aa ca ar) (fun _ si _ => ar.length - (intOf si).toNat)
    case atStart => exact ⟨0, _, _, _, Nat.zero_le _, rfl, rfl, rfl, rfl, N3.out⟩
    case round =>
      obtain ⟨j, L, A', c', hj, rfl, rfl, hLj, hmap, hN⟩ := hrel
      have NX := Lib.hid hN
      have MX := Lib.hid hmap
      have HLj := Lib.hid hLj
      have P4 := Lib.hid (P1.out.call hN.lw.below)
      have hL17 : L.length ≤ 17 := by omega
      clear hmap hN hLj
      by_cases hlt : j < ar.length
      · obtain ⟨k, hk⟩ : ∃ k, ar[j]? = some k := ⟨_, List.getElem?_eq_getElem hlt⟩
        obtain ⟨u, hu, huN⟩ := HAR.out k (List.mem_of_getElem? hk)
        obtain ⟨b, o, rfl, hb, hc⟩ := NX.out.ar.rd.one (nats_at hk)
        have HM := Lib.hid (show ∀ q, (L ++ [((overR p k n (runF p f d m u), q) : RtZ)]).map (·.1) = oo :: (ar.take (j + 1)).map (fun (k : Nat) => overR p k n (runF p f d m (othL p.links k n).toNat)) from fun q => by
          rw [List.map_append, MX.out, List.take_add_one, hk, List.map_append]
          simp [hu])
        have hj0 : (0 : Int) ≤ (j : Int) := by omega
        have hu0 : (0 : Int) ≤ (u : Int) := by omega
        have hu0' : decide ((0 : Int) ≤ (u : Int)) = true := decide_eq_true hu0
        have HC : Hid (∀ L' A2 c2 wy, NdW w1 wy L' A2 c2 w1.heap.size (some ⟨b, o, none⟩) ca ar → (wy.cell? ⟨w.heap.size, 0, none⟩ = some (.int .i64 p.proto) ∧ wy.cell? ⟨w.heap.size, 1, none⟩ = some (.int .i64 p.cap) ∧ wy.cell? ⟨w.heap.size, 2, none⟩ = some (.int .i64 p.k) ∧ wy.cell? ⟨w.heap.size, 3, none⟩ = some (.slice h.an p.nodes.length h.cn) ∧ wy.cell? ⟨w.heap.size, 4, none⟩ = some (.slice h.al p.links.length h.cl) ∧ wy.cell? ⟨w.heap.size, 5, none⟩ = some (.slice h.ad p.dests.length h.cd) ∧ wy.cell? ⟨w.heap.size, 6, none⟩ = some (.slice h.ac p.checks.length h.cc)) ∧ wy.cell? ⟨b, o + j, none⟩ = some (.int .i64 (k : Int))) := Lib.hid (fun L' A2 c2 wy a => ⟨(P1.out.call a.lw.below).all, by
          obtain ⟨b', o', e, -, hc'⟩ := a.ar.rd.one (nats_at hk)
          injection e with e
          injection e with e1 e2
          subst e1 e2
          exact hc'⟩)
        have CO : Hid (∀ wy, NdW w1 wy L A' c' w1.heap.size (some ⟨b, o, none⟩) ca ar → Calls Tryz.prog 16 #[.agg #[.int .i64 p.proto, .int .i64 p.cap, .int .i64 p.k, .slice h.an p.nodes.length h.cn, .slice h.al p.links.length h.cl, .slice h.ad p.dests.length h.cd, .slice h.ac p.checks.length h.cc], .int .i64 (k : Int), .int .i64 (n : Int)] wy fun e w' => e = .returned (.int .i64 (u : Int)) ∧ NdW w1 w' L A' c' w1.heap.size (some ⟨b, o, none⟩) ca ar) := Lib.hid (fun wy a =>
          (otherX_any p h k n wy (P1.out.call a.lw.below).net HG.out).mono fun e w' ⟨h1, h2⟩ => ⟨by rw [h1, hu], a.call h2⟩)
        have CB : Hid (∀ wy, NdW w1 wy L A' c' w1.heap.size (some ⟨b, o, none⟩) ca ar → Calls Tryz.prog 14 #[.agg #[.int .i64 p.proto, .int .i64 p.cap, .int .i64 p.k, .slice h.an p.nodes.length h.cn, .slice h.al p.links.length h.cl, .slice h.ad p.dests.length h.cd, .slice h.ac p.checks.length h.cc], .int .i64 f, .int .i64 d, .int .i64 (u : Int), .int .i64 (m : Int)] wy fun e w' => ∃ A5 c5, e = .returned (.agg #[.int .i64 (runF p f d m u).kind, .int .i64 (runF p f d m u).cost, .slice A5 (runF p f d m u).path.length c5]) ∧ RtR w' w'.heap.size (runF p f d m u) A5 c5 ∧ NdW w1 w' L A' c' w1.heap.size (some ⟨b, o, none⟩) ca ar) := Lib.hid (fun wy a =>
          (IH.out u wy huN (P1.out.call a.lw.below).net).mono fun e w' ⟨A5, c5, h1, h2, h3⟩ => ⟨A5, c5, h1, h2.rt _ _, a.call h3⟩)
        have CV : Hid (∀ A5 c5 wy, RtR wy wy.heap.size (runF p f d m u) A5 c5 → NdW w1 wy L A' c' w1.heap.size (some ⟨b, o, none⟩) ca ar → Calls Tryz.prog 30 #[.agg #[.int .i64 p.proto, .int .i64 p.cap, .int .i64 p.k, .slice h.an p.nodes.length h.cn, .slice h.al p.links.length h.cl, .slice h.ad p.dests.length h.cd, .slice h.ac p.checks.length h.cc], .int .i64 (k : Int), .int .i64 (n : Int), .agg #[.int .i64 (runF p f d m u).kind, .int .i64 (runF p f d m u).cost, .slice A5 (runF p f d m u).path.length c5]] wy fun e w' => ∃ A6 c6, e = .returned (.agg #[.int .i64 (overR p k n (runF p f d m u)).kind, .int .i64 (overR p k n (runF p f d m u)).cost, .slice A6 (overR p k n (runF p f d m u)).path.length c6]) ∧ OwnOr w' w1.heap.size A6 c6 (overR p k n (runF p f d m u)).path ∧ NdW w1 w' L A' c' w1.heap.size (some ⟨b, o, none⟩) ca ar) := Lib.hid (fun A5 c5 wy hr a =>
          (rover_any p h k n (runF p f d m u) A5 c5 wy (P1.out.call a.lw.below).net HG.out.small hr).mono fun e w' ⟨A6, c6, h1, h2, h3⟩ => ⟨A6, c6, by rw [h1, over_good HG.out.right]; rfl, by rw [over_good HG.out.right] at h2; exact h2.more a.lw.below.size, a.call h3⟩)
        generalize overR p k n (runF p f d m u) = r at *
        generalize runF p f d m u = ru at *
        have hwr1 : IntKind.i64.wrap ((m : Int) + 1 - 1) = (m : Int) := by rw [IntKind.wrap_i64]; omega
        have hwr2 : IntKind.i64.wrap (m : Int) = (m : Int) := by rw [IntKind.wrap_i64]; omega
        clear hk hu hb hc
        go_upto_region 7 with fail
        have hNd := NX.out.drew
        refine wp_region_held_drew (S := (fun wy => (wy.cell? ⟨w.heap.size, 0, none⟩ = some (.int .i64 p.proto) ∧ wy.cell? ⟨w.heap.size, 1, none⟩ = some (.int .i64 p.cap) ∧ wy.cell? ⟨w.heap.size, 2, none⟩ = some (.int .i64 p.k) ∧ wy.cell? ⟨w.heap.size, 3, none⟩ = some (.slice h.an p.nodes.length h.cn) ∧ wy.cell? ⟨w.heap.size, 4, none⟩ = some (.slice h.al p.links.length h.cl) ∧ wy.cell? ⟨w.heap.size, 5, none⟩ = some (.slice h.ad p.dests.length h.cd) ∧ wy.cell? ⟨w.heap.size, 6, none⟩ = some (.slice h.ac p.checks.length h.cc)) ∧ wy.cell? ⟨b, o + j, none⟩ = some (.int .i64 (k : Int)))) (by kernel_rfl) (HC.out _ _ _ _ hNd) (fun hHeld0 => ?_)
        refine take_list (i := 0) (v := ?_) rfl (by kernel_rfl) (by kernel_rfl) (by kernel_rfl) (fun _ _ _ h => h) (Or.inl ⟨by rfl, ?_⟩) (by assumption) ?_
        rotate_left
        · (intro w hSw; (try dsimp only at hSw); go_simp; try (with_reducible rfl))
        try simp only [Act.put, List.setIfInBounds_toArray, List.set_cons_zero, List.set_cons_succ]
        refine take_list (i := 1) (v := ?_) rfl (by kernel_rfl) (by kernel_rfl) (by kernel_rfl) (fun _ _ _ h => h) (Or.inl ⟨by rfl, ?_⟩) (by assumption) ?_
        rotate_left
        · (intro w hSw; (try dsimp only at hSw); go_simp; try (with_reducible rfl))
        try simp only [Act.put, List.setIfInBounds_toArray, List.set_cons_zero, List.set_cons_succ]
        refine take_list (i := 2) (v := ?_) rfl (by kernel_rfl) (by kernel_rfl) (by kernel_rfl) (fun _ _ _ h => h) (Or.inl ⟨by rfl, ?_⟩) (by assumption) ?_
        rotate_left
        · (intro w hSw; (try dsimp only at hSw); go_simp; try (with_reducible rfl))
        try simp only [Act.put, List.setIfInBounds_toArray, List.set_cons_zero, List.set_cons_succ]
        refine take_list (i := 3) (v := ?_) rfl (by kernel_rfl) (by kernel_rfl) (by kernel_rfl) (fun _ _ _ h => h) (Or.inl ⟨by rfl, ?_⟩) (by assumption) ?_
        rotate_left
        · (intro w hSw; (try dsimp only at hSw); go_simp; try (with_reducible rfl))
        try simp only [Act.put, List.setIfInBounds_toArray, List.set_cons_zero, List.set_cons_succ]
        refine take_list (i := 4) (v := ?_) rfl (by kernel_rfl) (by kernel_rfl) (by kernel_rfl) (fun _ _ _ h => h) (Or.inl ⟨by rfl, ?_⟩) (by assumption) ?_
        rotate_left
        · (intro w hSw; (try dsimp only at hSw); go_simp; try (with_reducible rfl))
        try simp only [Act.put, List.setIfInBounds_toArray, List.set_cons_zero, List.set_cons_succ]
        refine take_list (i := 5) (v := ?_) rfl (by kernel_rfl) (by kernel_rfl) (by kernel_rfl) (fun _ _ _ h => h) (Or.inl ⟨by rfl, ?_⟩) (by assumption) ?_
        rotate_left
        · (intro w hSw; (try dsimp only at hSw); go_simp; try (with_reducible rfl))
        try simp only [Act.put, List.setIfInBounds_toArray, List.set_cons_zero, List.set_cons_succ]
        refine wpAnyH_ready (rs := [6]) (by kernel_rfl) (by simp) ?_
        refine cons_list rfl (fun K hK => ?_) AllReadyH.nil
        go_simp
        (go_at_call 16; refine (CO.out _ hNd).mono ?_; rintro e w6 ⟨rfl, hN6⟩)
        refine hK.out _ _ (HC.out _ _ _ _ (by assumption)) (fun hHeld1 => ?_)
        clear hK K hHeld0
        try simp only [Act.put, List.setIfInBounds_toArray, List.set_cons_zero, List.set_cons_succ]
        refine take_list (i := 7) (v := ?_) rfl (by kernel_rfl) (by kernel_rfl) (by kernel_rfl) (fun _ _ _ h => h) (Or.inl ⟨by rfl, ?_⟩) (by assumption) ?_
        rotate_left
        · (intro w hSw; (try dsimp only at hSw); go_simp; try (with_reducible rfl))
        try simp only [Act.put, List.setIfInBounds_toArray, List.set_cons_zero, List.set_cons_succ]
        refine wpAnyH_done (by kernel_rfl) ?_ _
        clear hHeld1
        go_upto_region 9 with fail
        have hNe := hN6.drew
        clear hNd
        refine wp_region_held_drew (S := (fun wy => (wy.cell? ⟨w.heap.size, 0, none⟩ = some (.int .i64 p.proto) ∧ wy.cell? ⟨w.heap.size, 1, none⟩ = some (.int .i64 p.cap) ∧ wy.cell? ⟨w.heap.size, 2, none⟩ = some (.int .i64 p.k) ∧ wy.cell? ⟨w.heap.size, 3, none⟩ = some (.slice h.an p.nodes.length h.cn) ∧ wy.cell? ⟨w.heap.size, 4, none⟩ = some (.slice h.al p.links.length h.cl) ∧ wy.cell? ⟨w.heap.size, 5, none⟩ = some (.slice h.ad p.dests.length h.cd) ∧ wy.cell? ⟨w.heap.size, 6, none⟩ = some (.slice h.ac p.checks.length h.cc)) ∧ wy.cell? ⟨b, o + j, none⟩ = some (.int .i64 (k : Int)))) (by kernel_rfl) (HC.out _ _ _ _ hNe) (fun hHeld0 => ?_)
        refine take_list (i := 0) (v := ?_) rfl (by kernel_rfl) (by kernel_rfl) (by kernel_rfl) (fun _ _ _ h => h) (Or.inl ⟨by rfl, ?_⟩) (by assumption) ?_
        rotate_left
        · (intro w hSw; (try dsimp only at hSw); go_simp; try (with_reducible rfl))
        try simp only [Act.put, List.setIfInBounds_toArray, List.set_cons_zero, List.set_cons_succ]
        refine take_list (i := 1) (v := ?_) rfl (by kernel_rfl) (by kernel_rfl) (by kernel_rfl) (fun _ _ _ h => h) (Or.inl ⟨by rfl, ?_⟩) (by assumption) ?_
        rotate_left
        · (intro w hSw; (try dsimp only at hSw); go_simp; try (with_reducible rfl))
        try simp only [Act.put, List.setIfInBounds_toArray, List.set_cons_zero, List.set_cons_succ]
        refine take_list (i := 2) (v := ?_) rfl (by kernel_rfl) (by kernel_rfl) (by kernel_rfl) (fun _ _ _ h => h) (Or.inl ⟨by rfl, ?_⟩) (by assumption) ?_
        rotate_left
        · (intro w hSw; (try dsimp only at hSw); go_simp; try (with_reducible rfl))
        try simp only [Act.put, List.setIfInBounds_toArray, List.set_cons_zero, List.set_cons_succ]
        refine take_list (i := 3) (v := ?_) rfl (by kernel_rfl) (by kernel_rfl) (by kernel_rfl) (fun _ _ _ h => h) (Or.inl ⟨by rfl, ?_⟩) (by assumption) ?_
        rotate_left
        · (intro w hSw; (try dsimp only at hSw); go_simp; try (with_reducible rfl))
        try simp only [Act.put, List.setIfInBounds_toArray, List.set_cons_zero, List.set_cons_succ]
        refine take_list (i := 4) (v := ?_) rfl (by kernel_rfl) (by kernel_rfl) (by kernel_rfl) (fun _ _ _ h => h) (Or.inl ⟨by rfl, ?_⟩) (by assumption) ?_
        rotate_left
        · (intro w hSw; (try dsimp only at hSw); go_simp; try (with_reducible rfl))
        try simp only [Act.put, List.setIfInBounds_toArray, List.set_cons_zero, List.set_cons_succ]
        refine take_list (i := 5) (v := ?_) rfl (by kernel_rfl) (by kernel_rfl) (by kernel_rfl) (fun _ _ _ h => h) (Or.inl ⟨by rfl, ?_⟩) (by assumption) ?_
        rotate_left
        · (intro w hSw; (try dsimp only at hSw); go_simp; try (with_reducible rfl))
        try simp only [Act.put, List.setIfInBounds_toArray, List.set_cons_zero, List.set_cons_succ]
        refine take_list (i := 6) (v := ?_) rfl (by kernel_rfl) (by kernel_rfl) (by kernel_rfl) (fun _ _ _ h => h) (Or.inl ⟨by rfl, ?_⟩) (by assumption) ?_
        rotate_left
        · (intro w hSw; (try dsimp only at hSw); go_simp; try (with_reducible rfl))
        try simp only [Act.put, List.setIfInBounds_toArray, List.set_cons_zero, List.set_cons_succ]
        refine take_list (i := 7) (v := ?_) rfl (by kernel_rfl) (by kernel_rfl) (by kernel_rfl) (fun _ _ _ h => h) (Or.inl ⟨by rfl, ?_⟩) (by assumption) ?_
        rotate_left
        · (intro w hSw; (try dsimp only at hSw); go_simp; try (with_reducible rfl))
        try simp only [Act.put, List.setIfInBounds_toArray, List.set_cons_zero, List.set_cons_succ]
        refine take_list (i := 8) (v := ?_) rfl (by kernel_rfl) (by kernel_rfl) (by kernel_rfl) (fun _ _ _ h => h) (Or.inl ⟨by rfl, ?_⟩) (by assumption) ?_
        rotate_left
        · (intro w hSw; (try dsimp only at hSw); go_simp; try (with_reducible rfl))
        try simp only [Act.put, List.setIfInBounds_toArray, List.set_cons_zero, List.set_cons_succ]
        refine take_list (i := 9) (v := ?_) rfl (by kernel_rfl) (by kernel_rfl) (by kernel_rfl) (fun _ _ _ h => h) (Or.inl ⟨by rfl, ?_⟩) (by assumption) ?_
        rotate_left
        · (intro w hSw; (try dsimp only at hSw); go_simp; try (with_reducible rfl))
        try simp only [Act.put, List.setIfInBounds_toArray, List.set_cons_zero, List.set_cons_succ]
        refine take_list (i := 10) (v := ?_) rfl (by kernel_rfl) (by kernel_rfl) (by kernel_rfl) (fun _ _ _ h => h) (Or.inl ⟨by rfl, ?_⟩) (by assumption) ?_
        rotate_left
        · (intro w hSw; (try dsimp only at hSw); go_simp; try (with_reducible rfl))
        try simp only [Act.put, List.setIfInBounds_toArray, List.set_cons_zero, List.set_cons_succ]
        refine take_list (i := 11) (v := ?_) rfl (by kernel_rfl) (by kernel_rfl) (by kernel_rfl) (fun _ _ _ h => h) (Or.inl ⟨by rfl, ?_⟩) (by assumption) ?_
        rotate_left
        · (intro w hSw; (try dsimp only at hSw); go_simp; try (with_reducible rfl))
        try simp only [Act.put, List.setIfInBounds_toArray, List.set_cons_zero, List.set_cons_succ]
        refine take_list (i := 12) (v := ?_) rfl (by kernel_rfl) (by kernel_rfl) (by kernel_rfl) (fun _ _ _ h => h) (Or.inl ⟨by rfl, ?_⟩) (by assumption) ?_
        rotate_left
        · (intro w hSw; (try dsimp only at hSw); go_simp; try (with_reducible rfl))
        try simp only [Act.put, List.setIfInBounds_toArray, List.set_cons_zero, List.set_cons_succ]
        refine wpAnyH_ready (rs := [13]) (by kernel_rfl) (by simp) ?_
        refine cons_list rfl (fun K hK => ?_) AllReadyH.nil
        go_simp
        (go_at_call 14; refine (CB.out _ hNe).mono ?_; rintro e w7 ⟨A5, c5, rfl, hr5, hN7⟩)
        refine hK.out _ _ (HC.out _ _ _ _ (by first | exact hN9 | exact hN8 | exact hN7b | exact hN7)) (fun hHeld1 => ?_)
        clear hK K hHeld0
        try simp only [Act.put, List.setIfInBounds_toArray, List.set_cons_zero, List.set_cons_succ]
        refine wpAnyH_ready (rs := [14]) (by kernel_rfl) (by simp) ?_
        refine cons_list rfl (fun K hK => ?_) AllReadyH.nil
        go_simp
        (go_at_call 30; refine (CV.out A5 c5 _ hr5 hN7).mono ?_; rintro e w8 ⟨A6, c6, rfl, ho6, hN7b⟩; have hN8 := hN7b.alloc (.cells #[.int .i64 r.kind, .int .i64 r.cost, .slice A6 r.path.length c6] 36))
        refine hK.out _ _ (HC.out _ _ _ _ (by first | exact hN9 | exact hN8 | exact hN7b | exact hN7)) (fun hHeld2 => ?_)
        clear hK K hHeld1
        try simp only [Act.put, List.setIfInBounds_toArray, List.set_cons_zero, List.set_cons_succ]
        refine wpAnyH_ready (rs := [15]) (by kernel_rfl) (by simp) ?_
        refine cons_list rfl (fun K hK => ?_) AllReadyH.nil
        go_simp
        refine hK.out _ _ (HC.out _ _ _ _ (by first | exact hN9 | exact hN8 | exact hN7b | exact hN7)) (fun hHeld3 => ?_)
        clear hK K hHeld2
        try simp only [Act.put, List.setIfInBounds_toArray, List.set_cons_zero, List.set_cons_succ]
        refine wpAnyH_ready (rs := [16]) (by kernel_rfl) (by simp) ?_
        refine cons_list rfl (fun K hK => ?_) AllReadyH.nil
        (refine step_app _ (by rfl) _ _ 32 (by rfl) w1.heap.size 36 i3 _ 3 40 Tryz.underlying32 hi3 hz3 hs3 hb3 rfl (by decide) _ _ _ (L.flatMap rtCells) (by rfl) hN8.lw.row _ 1 _ (rtCells ((r, (A6, c6)) : RtZ)) (by rfl) (Rd.new (by simp) rfl) (by intro x hx; simp [rtCells] at hx; rcases hx with rfl | rfl | rfl <;> rfl) (by unfold maxLen; omega) (by omega) (by have := hN7b.lw.below.size; simp; omega) ?_; intro A2 c2 w5 hown2 hgrow2 hblk2 _; have hN9 := hN8.app (z := ((r, (A6, c6)) : RtZ)) (B' := w1.heap.size) (Nat.le_refl _) (ho6.alloc _) (by rfl) hgrow2 hown2)
        refine hK.out _ _ (HC.out _ _ _ _ (by first | exact hN9 | exact hN8 | exact hN7b | exact hN7)) (fun hHeld4 => ?_)
        clear hK K hHeld3
        try simp only [Act.put, List.setIfInBounds_toArray, List.set_cons_zero, List.set_cons_succ]
        refine take_list (i := 17) (v := ?_) rfl (by kernel_rfl) (by kernel_rfl) (by kernel_rfl) (fun _ _ _ h => h) (Or.inl ⟨by rfl, ?_⟩) (by assumption) ?_
        rotate_left
        · (intro w hSw; (try dsimp only at hSw); go_simp; try (with_reducible rfl))
        try simp only [Act.put, List.setIfInBounds_toArray, List.set_cons_zero, List.set_cons_succ]
        refine wpAnyH_done (by kernel_rfl) ?_ _
        clear hHeld4
        have N9 := Lib.hid hN9
        clear hN6 hN7 hN7b hN8 hN9 hNe hown2 hgrow2 hblk2 ho6 hr5
        go_wp2
        go_roundw
        case rel => exact ⟨j + 1, _, A2, c2, by omega, by go_num, by simp, by have := HLj.out; simp; omega, HM.out _, N9.out⟩
        case measure => simp [intOf]; omega
      · have hjl : j = ar.length := by omega
        have HMM : Hid (L.map (·.1) = candF p f d (runF p f d m) n) := Lib.hid (by rw [MX.out, hjl, List.take_length, HCA.out])
        clear hjl
        go_wp2_with fail
        refine (refBest_any L A' c' _ NX.out.lw.rts (by omega)).mono ?_
        rintro e w5 ⟨rfl, hb5⟩
        have P5 := Lib.hid (P4.out.call hb5)
        have HF := Lib.hid (best_or (h := h) (G := NG.out) hw1 NX.out.lw hb5 P5.out.below HMM.out)
        rw [← HRUN.out] at HF
        generalize rbestL L = y at *
        obtain ⟨hfz, ⟨r0, r1, r2⟩, ⟨f0, f1, f2⟩⟩ := rt_put (b := w.heap.size + 1) P5.out.below (Nat.le_succ _) P5.out.box (.int .i64 y.1.kind) (.int .i64 y.1.cost) (.slice y.2.1 y.1.path.length y.2.2)
        clear hb5 hfz
        go_wp2
        exact bodyPost_ret (v := .agg #[.int .i64 y.1.kind, .int .i64 y.1.cost, .slice y.2.1 y.1.path.length y.2.2]) (by simp [results, Tryz.results14, go_sem, r0, r1, r2]) rfl HF.out

set_option maxRecDepth 100000 in
set_option maxHeartbeats 8000000 in
theorem roundWays_walk (a0 : Option Addr) (c0 : Nat) (l0 : List Int) (n1 n2 n3 : Int) (w : World) (h0 : InRow w a0 c0 l0) (k1 : In64 n1) (k2 : In64 n2) (k3 : In64 n3) :
    Calls Tryz.prog 3 #[.slice a0 l0.length c0, .int .i64 n1, .int .i64 n2, .int .i64 n3] w fun e w' => e = .returned (.bool true) ∧ Below w.heap.size w w' := by
  have I1 := Lib.hid k1
  have I2 := Lib.hid k2
  have I3 := Lib.hid k3
  clear k1 k2 k3
  have H0 := Lib.hid h0
  clear h0
  go_enter Tryz.func3, Tryz.ntmps3
  go_wp2_with fail
  refine (awake9 _).mono ?_
  rintro e w1 ⟨rfl, hb1⟩
  have J0 := Lib.hid (H0.out.call hb1)
  have B1 := Lib.hid hb1
  clear hb1
  go_wp2_with fail
  refine (net_any _ _ l0 c0 J0.out.len J0.out.le J0.out.rd J0.out.in64).mono ?_
  rintro e w2 ⟨p, h, rfl, hok, hown, hb⟩
  have B2 := Lib.hid (since_trans B1.out hb)
  have OK := Lib.hid hok
  have GD := Lib.hid hok.good
  have NG := Lib.hid hok.good.netG
  have P0 : Hid (NW w (w2.alloc (.cells #[.int .i64 p.proto, .int .i64 p.cap, .int .i64 p.k, .slice h.an p.nodes.length h.cn, .slice h.al p.links.length h.cl, .slice h.ad p.dests.length h.cd, .slice h.ac p.checks.length h.cc] 29)) w2.heap.size p h []) := Lib.hid ⟨PB.begin B2.out hown.net, by intro z hz; cases hz⟩
  have hn2 := hok.n.1
  have hn7 := hok.n.2
  have hl9 := hok.l9
  have HD0 := Lib.hid (dest0 (p := p) (by have := hok.d12.1; omega))
  clear hb hown hok J0
  unfold netV netVal
  go_upto_region 3 with fail
  generalize (w2.alloc (.cells #[.int .i64 p.proto, .int .i64 p.cap, .int .i64 p.k, .slice h.an p.nodes.length h.cn, .slice h.al p.links.length h.cl, .slice h.ad p.dests.length h.cd, .slice h.ac p.checks.length h.cc] 29)) = w3 at *
  generalize w2.heap.size = bp at *
  clear B1 B2
  obtain ⟨g0, g1, g2, g3, g4, g5, g6⟩ := P0.out.pb.all
  go_wp2_with fail
  refine (pick9_any n2 p.nodes.length _ I2.out (by omega) (by omega)).mono ?_
  rintro e w' ⟨rfl, rfl⟩
  have hn := pickV_in (c := n2) (n := p.nodes.length) (by omega)
  generalize pickV n2 p.nodes.length = n at *
  obtain ⟨n, rfl⟩ : ∃ k : Nat, n = k := ⟨n.toNat, by omega⟩
  obtain ⟨hn0, hn1⟩ := hn
  go_wp2_with fail
  refine (pick9_any n3 5 _ I3.out (by omega) (by omega)).mono ?_
  rintro e w' ⟨rfl, rfl⟩
  have hr := pickV_in (c := n3) (n := 5) (by omega)
  generalize pickV n3 5 = r at *
  obtain ⟨r, rfl⟩ : ∃ k : Nat, r = k := ⟨r.toNat, by omega⟩
  obtain ⟨hr0, hr1⟩ := hr
  go_wp2_with fail
  refine (pick9_any n1 512 _ I1.out (by omega) (by omega)).mono ?_
  rintro e w' ⟨rfl, rfl⟩
  generalize pickV n1 512 = x at *
  go_wp2_with fail
  refine (runX_any p h x 0 r (by omega) _ P0.out.net GD.out HD0.out).mono ?_
  rintro e w4 ⟨Z, A, c, rfl, hZ, hL⟩
  have N4 : Hid (NR w w4 bp p h Z A) := Lib.hid ⟨P0.out.call hL.below, hL.rts⟩
  have HZ := Lib.hid hZ
  have HZl := Lib.hid (len_of hZ)
  have hq : ((Z.length : Int) == (p.nodes.length : Int)) = true := by have := HZl.out; simp [this]
  clear hZ hL g0 g1 g2 g3 g4 g5 g6
  obtain ⟨z, hz⟩ : ∃ z, Z[n]? = some z := ⟨_, List.getElem?_eq_getElem (by have := HZl.out; omega)⟩
  have ez : z.1 = runF p x 0 r n := by
    have e : (Z.map (·.1))[n]? = some z.1 := by rw [List.getElem?_map, hz]; rfl
    rw [HZ.out, stL_at (by omega)] at e
    injection e with e
    exact e.symm
  obtain ⟨b, o, rfl, hb, z0, z1, z2⟩ := N4.out.rts.at_ hz
  have HRZ := Lib.hid (N4.out.rts.each z (List.mem_of_getElem? hz))
  have HC : Hid (∀ wy, Below w4.heap.size w4 wy → (wy.cell? ⟨bp, 0, none⟩ = some (.int .i64 p.proto) ∧ wy.cell? ⟨bp, 1, none⟩ = some (.int .i64 p.cap) ∧ wy.cell? ⟨bp, 2, none⟩ = some (.int .i64 p.k) ∧ wy.cell? ⟨bp, 3, none⟩ = some (.slice h.an p.nodes.length h.cn) ∧ wy.cell? ⟨bp, 4, none⟩ = some (.slice h.al p.links.length h.cl) ∧ wy.cell? ⟨bp, 5, none⟩ = some (.slice h.ad p.dests.length h.cd) ∧ wy.cell? ⟨bp, 6, none⟩ = some (.slice h.ac p.checks.length h.cc)) ∧ wy.cell? ⟨b, o + n * 3, none⟩ = some (.int .i64 z.1.kind) ∧ wy.cell? ⟨b, o + n * 3 + 1, none⟩ = some (.int .i64 z.1.cost) ∧ wy.cell? ⟨b, o + n * 3 + 2, none⟩ = some (.slice z.2.1 z.1.path.length z.2.2)) := Lib.hid (fun wy hb2 => ⟨(N4.out.call hb2).nw.pb.all, (hb2.cell (p := ⟨b, _, none⟩) hb).trans z0, (hb2.cell (p := ⟨b, _, none⟩) hb).trans z1, (hb2.cell (p := ⟨b, _, none⟩) hb).trans z2⟩)
  have CB : Hid (∀ wy, Below w4.heap.size w4 wy → Calls Tryz.prog 14 #[.agg #[.int .i64 p.proto, .int .i64 p.cap, .int .i64 p.k, .slice h.an p.nodes.length h.cn, .slice h.al p.links.length h.cl, .slice h.ad p.dests.length h.cd, .slice h.ac p.checks.length h.cc], .int .i64 x, .int .i64 0, .int .i64 (n : Int), .int .i64 (r : Int)] wy fun e w' => ∃ A5 c5, e = .returned (.agg #[.int .i64 (runF p x 0 r n).kind, .int .i64 (runF p x 0 r n).cost, .slice A5 (runF p x 0 r n).path.length c5]) ∧ RtR w' w'.heap.size (runF p x 0 r n) A5 c5 ∧ Below w4.heap.size w4 w') := Lib.hid (fun wy a =>
    (best9_any p h GD.out x 0 r (by omega) n wy (by omega) (N4.out.call a).nw.net).mono fun e w' ⟨A5, c5, h1, h2, h3⟩ => ⟨A5, c5, h1, h2.rt _ _, since_trans a h3⟩)
  have CS : Hid (∀ A5 c5 wy, RtR wy wy.heap.size (runF p x 0 r n) A5 c5 → Below w4.heap.size w4 wy → Calls Tryz.prog 13 #[.agg #[.int .i64 z.1.kind, .int .i64 z.1.cost, .slice z.2.1 z.1.path.length z.2.2], .agg #[.int .i64 (runF p x 0 r n).kind, .int .i64 (runF p x 0 r n).cost, .slice A5 (runF p x 0 r n).path.length c5]] wy fun e w' => e = .returned (.bool true) ∧ Below w4.heap.size w4 w') := Lib.hid (fun A5 c5 wy hr hb2 =>
    (refSame_any z.1 (runF p x 0 r n) z.2.1 A5 z.2.2 c5 wy ((HRZ.out.below hb2 (Nat.le_refl _)).more hb2.size) hr).mono fun e w' ⟨h1, h2⟩ => ⟨by rw [h1, ez]; simp, since_trans hb2 h2⟩)
  generalize runF p x 0 r n = rr at *
  obtain ⟨g0, g1, g2, g3, g4, g5, g6⟩ := N4.out.nw.pb.all
  have hnZ : (n : Int) < (Z.length : Int) := by have := HZl.out; omega
  have hnZ' : n < Z.length := by omega
  go_upto_region 7 with fail
  have hBd : Below w4.heap.size w4 w4.drew := below_drew (Below.refl _ _)
  clear g0 g1 g2 g3 g4 g5 g6 hz ez z0 z1 z2 hb
  refine wp_region_held_drew (S := (fun wy => (wy.cell? ⟨bp, 0, none⟩ = some (.int .i64 p.proto) ∧ wy.cell? ⟨bp, 1, none⟩ = some (.int .i64 p.cap) ∧ wy.cell? ⟨bp, 2, none⟩ = some (.int .i64 p.k) ∧ wy.cell? ⟨bp, 3, none⟩ = some (.slice h.an p.nodes.length h.cn) ∧ wy.cell? ⟨bp, 4, none⟩ = some (.slice h.al p.links.length h.cl) ∧ wy.cell? ⟨bp, 5, none⟩ = some (.slice h.ad p.dests.length h.cd) ∧ wy.cell? ⟨bp, 6, none⟩ = some (.slice h.ac p.checks.length h.cc)) ∧ wy.cell? ⟨b, o + n * 3, none⟩ = some (.int .i64 z.1.kind) ∧ wy.cell? ⟨b, o + n * 3 + 1, none⟩ = some (.int .i64 z.1.cost) ∧ wy.cell? ⟨b, o + n * 3 + 2, none⟩ = some (.slice z.2.1 z.1.path.length z.2.2))) (by kernel_rfl) (HC.out _ hBd) (fun hHeld0 => ?_)
  refine take_list (i := 0) (v := ?_) rfl (by kernel_rfl) (by kernel_rfl) (by kernel_rfl) (fun _ _ _ h => h) (Or.inl ⟨by rfl, ?_⟩) (by assumption) ?_
  rotate_left
  · (intro w hSw; (try dsimp only at hSw); go_simp; try (with_reducible rfl))
  try simp only [Act.put, List.setIfInBounds_toArray, List.set_cons_zero, List.set_cons_succ]
  refine take_list (i := 1) (v := ?_) rfl (by kernel_rfl) (by kernel_rfl) (by kernel_rfl) (fun _ _ _ h => h) (Or.inl ⟨by rfl, ?_⟩) (by assumption) ?_
  rotate_left
  · (intro w hSw; (try dsimp only at hSw); go_simp; try (with_reducible rfl))
  try simp only [Act.put, List.setIfInBounds_toArray, List.set_cons_zero, List.set_cons_succ]
  refine take_list (i := 2) (v := ?_) rfl (by kernel_rfl) (by kernel_rfl) (by kernel_rfl) (fun _ _ _ h => h) (Or.inl ⟨by rfl, ?_⟩) (by assumption) ?_
  rotate_left
  · (intro w hSw; (try dsimp only at hSw); go_simp; try (with_reducible rfl))
  try simp only [Act.put, List.setIfInBounds_toArray, List.set_cons_zero, List.set_cons_succ]
  refine take_list (i := 3) (v := ?_) rfl (by kernel_rfl) (by kernel_rfl) (by kernel_rfl) (fun _ _ _ h => h) (Or.inl ⟨by rfl, ?_⟩) (by assumption) ?_
  rotate_left
  · (intro w hSw; (try dsimp only at hSw); go_simp; try (with_reducible rfl))
  try simp only [Act.put, List.setIfInBounds_toArray, List.set_cons_zero, List.set_cons_succ]
  refine take_list (i := 4) (v := ?_) rfl (by kernel_rfl) (by kernel_rfl) (by kernel_rfl) (fun _ _ _ h => h) (Or.inl ⟨by rfl, ?_⟩) (by assumption) ?_
  rotate_left
  · (intro w hSw; (try dsimp only at hSw); go_simp; try (with_reducible rfl))
  try simp only [Act.put, List.setIfInBounds_toArray, List.set_cons_zero, List.set_cons_succ]
  refine take_list (i := 5) (v := ?_) rfl (by kernel_rfl) (by kernel_rfl) (by kernel_rfl) (fun _ _ _ h => h) (Or.inl ⟨by rfl, ?_⟩) (by assumption) ?_
  rotate_left
  · (intro w hSw; (try dsimp only at hSw); go_simp; try (with_reducible rfl))
  try simp only [Act.put, List.setIfInBounds_toArray, List.set_cons_zero, List.set_cons_succ]
  refine take_list (i := 6) (v := ?_) rfl (by kernel_rfl) (by kernel_rfl) (by kernel_rfl) (fun _ _ _ h => h) (Or.inl ⟨by rfl, ?_⟩) (by assumption) ?_
  rotate_left
  · (intro w hSw; (try dsimp only at hSw); go_simp; try (with_reducible rfl))
  try simp only [Act.put, List.setIfInBounds_toArray, List.set_cons_zero, List.set_cons_succ]
  refine take_list (i := 7) (v := ?_) rfl (by kernel_rfl) (by kernel_rfl) (by kernel_rfl) (fun _ _ _ h => h) (Or.inl ⟨by rfl, ?_⟩) (by assumption) ?_
  rotate_left
  · (intro w hSw; (try dsimp only at hSw); go_simp; try (with_reducible rfl))
  try simp only [Act.put, List.setIfInBounds_toArray, List.set_cons_zero, List.set_cons_succ]
  refine take_list (i := 8) (v := ?_) rfl (by kernel_rfl) (by kernel_rfl) (by kernel_rfl) (fun _ _ _ h => h) (Or.inl ⟨by rfl, ?_⟩) (by assumption) ?_
  rotate_left
  · (intro w hSw; (try dsimp only at hSw); go_simp; try (with_reducible rfl))
  try simp only [Act.put, List.setIfInBounds_toArray, List.set_cons_zero, List.set_cons_succ]
  refine take_list (i := 9) (v := ?_) rfl (by kernel_rfl) (by kernel_rfl) (by kernel_rfl) (fun _ _ _ h => h) (Or.inl ⟨by rfl, ?_⟩) (by assumption) ?_
  rotate_left
  · (intro w hSw; (try dsimp only at hSw); go_simp; try (with_reducible rfl))
  try simp only [Act.put, List.setIfInBounds_toArray, List.set_cons_zero, List.set_cons_succ]
  refine take_list (i := 10) (v := ?_) rfl (by kernel_rfl) (by kernel_rfl) (by kernel_rfl) (fun _ _ _ h => h) (Or.inl ⟨by rfl, ?_⟩) (by assumption) ?_
  rotate_left
  · (intro w hSw; (try dsimp only at hSw); go_simp; try (with_reducible rfl))
  try simp only [Act.put, List.setIfInBounds_toArray, List.set_cons_zero, List.set_cons_succ]
  refine take_list (i := 11) (v := ?_) rfl (by kernel_rfl) (by kernel_rfl) (by kernel_rfl) (fun _ _ _ h => h) (Or.inl ⟨by rfl, ?_⟩) (by assumption) ?_
  rotate_left
  · (intro w hSw; (try dsimp only at hSw); go_simp; try (with_reducible rfl))
  try simp only [Act.put, List.setIfInBounds_toArray, List.set_cons_zero, List.set_cons_succ]
  refine take_list (i := 12) (v := ?_) rfl (by kernel_rfl) (by kernel_rfl) (by kernel_rfl) (fun _ _ _ h => h) (Or.inl ⟨by rfl, ?_⟩) (by assumption) ?_
  rotate_left
  · (intro w hSw; (try dsimp only at hSw); go_simp; try (with_reducible rfl))
  try simp only [Act.put, List.setIfInBounds_toArray, List.set_cons_zero, List.set_cons_succ]
  refine take_list (i := 13) (v := ?_) rfl (by kernel_rfl) (by kernel_rfl) (by kernel_rfl) (fun _ _ _ h => h) (Or.inl ⟨by rfl, ?_⟩) (by assumption) ?_
  rotate_left
  · (intro w hSw; (try dsimp only at hSw); go_simp; try (with_reducible rfl))
  try simp only [Act.put, List.setIfInBounds_toArray, List.set_cons_zero, List.set_cons_succ]
  refine take_list (i := 14) (v := ?_) rfl (by kernel_rfl) (by kernel_rfl) (by kernel_rfl) (fun _ _ _ h => h) (Or.inl ⟨by rfl, ?_⟩) (by assumption) ?_
  rotate_left
  · (intro w hSw; (try dsimp only at hSw); go_simp; try (with_reducible rfl))
  try simp only [Act.put, List.setIfInBounds_toArray, List.set_cons_zero, List.set_cons_succ]
  refine take_list (i := 15) (v := ?_) rfl (by kernel_rfl) (by kernel_rfl) (by kernel_rfl) (fun _ _ _ h => h) (Or.inl ⟨by rfl, ?_⟩) (by assumption) ?_
  rotate_left
  · (intro w hSw; (try dsimp only at hSw); go_simp; try (with_reducible rfl))
  try simp only [Act.put, List.setIfInBounds_toArray, List.set_cons_zero, List.set_cons_succ]
  refine take_list (i := 16) (v := ?_) rfl (by kernel_rfl) (by kernel_rfl) (by kernel_rfl) (fun _ _ _ h => h) (Or.inl ⟨by rfl, ?_⟩) (by assumption) ?_
  rotate_left
  · (intro w hSw; (try dsimp only at hSw); go_simp; try (with_reducible rfl))
  try simp only [Act.put, List.setIfInBounds_toArray, List.set_cons_zero, List.set_cons_succ]
  refine take_list (i := 17) (v := ?_) rfl (by kernel_rfl) (by kernel_rfl) (by kernel_rfl) (fun _ _ _ h => h) (Or.inl ⟨by rfl, ?_⟩) (by assumption) ?_
  rotate_left
  · (intro w hSw; (try dsimp only at hSw); go_simp; try (with_reducible rfl))
  try simp only [Act.put, List.setIfInBounds_toArray, List.set_cons_zero, List.set_cons_succ]
  refine wpAnyH_ready (rs := [18]) (by kernel_rfl) (by simp) ?_
  refine cons_list rfl (fun K hK => ?_) AllReadyH.nil
  go_simp
  (go_at_call 14; refine (CB.out _ hBd).mono ?_; rintro e w5 ⟨A5, c5, rfl, hr5, hB5⟩)
  refine hK.out _ _ (HC.out _ (by assumption)) (fun hHeld1 => ?_)
  clear hK K hHeld0
  try simp only [Act.put, List.setIfInBounds_toArray, List.set_cons_zero, List.set_cons_succ]
  refine wpAnyH_ready (rs := [19]) (by kernel_rfl) (by simp) ?_
  refine cons_list rfl (fun K hK => ?_) AllReadyH.nil
  go_simp
  (go_at_call 13; refine (CS.out A5 c5 _ hr5 hB5).mono ?_; rintro e w6 ⟨rfl, hB6⟩)
  refine hK.out _ _ (HC.out _ (by assumption)) (fun hHeld2 => ?_)
  clear hK K hHeld1
  try simp only [Act.put, List.setIfInBounds_toArray, List.set_cons_zero, List.set_cons_succ]
  refine take_list (i := 20) (v := ?_) rfl (by kernel_rfl) (by kernel_rfl) (by kernel_rfl) (fun _ _ _ h => h) (Or.inl ⟨by rfl, ?_⟩) (by assumption) ?_
  rotate_left
  · (intro w hSw; (try dsimp only at hSw); go_simp; try (with_reducible rfl))
  try simp only [Act.put, List.setIfInBounds_toArray, List.set_cons_zero, List.set_cons_succ]
  refine take_list (i := 21) (v := ?_) rfl (by kernel_rfl) (by kernel_rfl) (by kernel_rfl) (fun _ _ _ h => h) (Or.inl ⟨by rfl, ?_⟩) (by assumption) ?_
  rotate_left
  · (intro w hSw; (try dsimp only at hSw); go_simp; try (with_reducible rfl))
  try simp only [Act.put, List.setIfInBounds_toArray, List.set_cons_zero, List.set_cons_succ]
  refine wpAnyH_done (by kernel_rfl) ?_ _
  clear hHeld2
  go_wp2
  go_ret
  exact ⟨rfl, since_trans N4.out.nw.pb.below hB6⟩
end Go.Proofs.YtifjppkgbalcpaaGreat

/- What carry.Over answers at a network that may be. -/
import Derived.Test.YtakolnmoieiicaaGreatCarryH
import Derived.Test.YtakolnmoieiicaaGreatBase
import Derived.Test.YtakolnmoieiicaaGreatRt
namespace Go.Proofs.YtakolnmoieiicaaGreat
set_option linter.unusedSimpArgs false
set_option linter.unusedVariables false
open Go.RowKit

/-- The boxes of Over: the network's, the route's, the answer's. -/
structure POv (w wr : World) (p : Net) (h : Hd) (r : Rt) (A : Option Addr) (c : Nat) : Prop where
  pr : PR w wr p h r A c
  size : w.heap.size + 3 ≤ wr.heap.size
  out : wr.heap[w.heap.size + 1 + 1]? = some (.cells #[.int .i64 0, .int .i64 0, .slice none 0 0] 48 (0, 0))
section
variable {w wr w' : World} {p : Net} {h : Hd} {r : Rt} {A : Option Addr} {c : Nat}
theorem POv.begin (hp : NetR w w.heap.size p h) (hr : RtR w w.heap.size r A c) : POv w (((w.alloc (.cells (netCells p h) 30)).alloc (.cells #[.int .i64 r.kind, .int .i64 r.cost, .slice A r.path.length c] 48)).alloc (.cells #[.int .i64 0, .int .i64 0, .slice none 0 0] 48)) p h r A c := by
  refine ⟨(PR.begin hp hr).call ((Below.refl _ _).alloc (Nat.le_refl _) _), by simp, ?_⟩
  have := heap_alloc_new ((w.alloc (.cells (netCells p h) 30)).alloc (.cells #[.int .i64 r.kind, .int .i64 r.cost, .slice A r.path.length c] 48)) (.cells #[.int .i64 0, .int .i64 0, .slice none 0 0] 48)
  simpa using this
theorem POv.call (a : POv w wr p h r A c) (hb : Below wr.heap.size wr w') : POv w w' p h r A c :=
  ⟨a.pr.call hb, Nat.le_trans a.size hb.size, (hb.block _ (by have := a.size; omega)).trans a.out⟩
end
theorem new_kept {w0 w1 : World} {o : Obj} (hb : Below (w0.alloc o).heap.size (w0.alloc o) w1) : w1.heap[w0.heap.size]? = some o := (hb.block _ (by simp)).trans (heap_alloc_new _ _)
theorem new_kept_d {w0 w1 : World} {o : Obj} (hb : Below (w0.alloc o).drew.heap.size (w0.alloc o).drew w1) : w1.heap[w0.heap.size]? = some o := (hb.block w0.heap.size (by show w0.heap.size < (w0.alloc o).heap.size; simp)).trans (heap_alloc_new w0 o)
/-- A route is put into a box that was there ahead of its list. -/
theorem box_put {w : World} {b B : Nat} {A : Option Addr} {c : Nat} {k co : Int} {l : List Int} (kz : w.heap[b]? = some (.cells #[.int .i64 0, .int .i64 0, .slice none 0 0] 48 (0, 0))) (h : OwnOr w B A c l) (hb : b < B) {B' : Nat} (hB : B' ≤ B) :
    (((w.setCell ⟨b, 0, none⟩ (.int .i64 k)).setCell ⟨b, 1, none⟩ (.int .i64 co)).setCell ⟨b, 2, none⟩ (.slice A l.length c)).heap[b]? = some (.cells #[.int .i64 k, .int .i64 co, .slice A l.length c] 48 (0, 0)) ∧
    OwnOr (((w.setCell ⟨b, 0, none⟩ (.int .i64 k)).setCell ⟨b, 1, none⟩ (.int .i64 co)).setCell ⟨b, 2, none⟩ (.slice A l.length c)) B' A c l := by
  constructor
  · rw [heap_setCell_same _ _ _ _ _ _ (heap_setCell_same _ _ _ _ _ _ (heap_setCell_same _ _ _ _ _ _ kz))]; simp
  · exact (((h.far (q := ⟨b, 0, none⟩) hb _).far (q := ⟨b, 1, none⟩) hb _).far (q := ⟨b, 2, none⟩) hb _).more hB
theorem box_new {w : World} {B B' : Nat} {A : Option Addr} {c : Nat} {k co : Int} {l : List Int} (h : OwnOr w B A c l) (hB : B' ≤ B) :
    (w.alloc (.cells #[.int .i64 k, .int .i64 co, .slice A l.length c] 48)).heap[w.heap.size]? = some (.cells #[.int .i64 k, .int .i64 co, .slice A l.length c] 48 (0, 0)) ∧
    OwnOr (w.alloc (.cells #[.int .i64 k, .int .i64 co, .slice A l.length c] 48)) B' A c l :=
  ⟨heap_alloc_new _ _, (h.alloc _).more hB⟩
/-- Behind a call what was in the box is there. -/
theorem box_call {w w' : World} {b : Nat} {o : Obj} (h : w.heap[b]? = some o) (hb : Below w.heap.size w w') : w'.heap[b]? = some o := (hb.block b (lt_heap h)).trans h
set_option maxRecDepth 100000 in
set_option maxHeartbeats 2000000 in
theorem overO_any (p : Net) (h : Hd) (k n : Int) (r : Rt) (A : Option Addr) (c : Nat) (w : World) (hp : NetR w w.heap.size p h) (hg : Good p) (hr : RtR w w.heap.size r A c) :
    Calls Tryz.prog 74 #[netV p h, .int .i64 k, .int .i64 n, rtV r A c] w (OrPost (overR p k n r) w) := by
  have PX := Lib.hid (POv.begin hp hr)
  have HG := Lib.hid hg
  have GG := hg.netG
  have HZ : Hid (overR p k n r = rtNone → ∀ w', Below w.heap.size w w' → OrPost (overR p k n r) w (.returned (.agg #[.int .i64 0, .int .i64 0, .slice none 0 0])) w') := Lib.hid (fun e w' hb => by rw [e]; exact ⟨none, 0, rfl, OwnOr.nil, hb⟩)
  have HP := Lib.hid hp
  have HRR := Lib.hid hr
  unfold netV netVal rtV
  clear hp hr hg
  by_cases hf : othL p.links k n < 0
  · have HN := Lib.hid (HZ.out (over_none (.inl hf)))
    clear HZ GG
    go_enter Tryz.func74, Tryz.ntmps74
    go_wp2_with fail
    refine (otherX_any p h k n _ PX.out.pr.net HG.out).mono ?_
    rintro e w1 ⟨rfl, hb1⟩
    have P1 := Lib.hid (PX.out.call hb1)
    obtain ⟨hfin, ⟨r0, r1, r2⟩, ⟨f0, f1, f2⟩⟩ := rt_put (r := rtNone) (A := none) (c := 0) P1.out.pr.below (show w.heap.size ≤ w.heap.size + 1 + 1 by omega) P1.out.out (.int .i64 0) (.int .i64 0) (.slice none 0 0)
    have HB := Lib.hid hfin
    clear hb1 hfin
    go_wp2
    exact bodyPost_ret (v := .agg #[.int .i64 0, .int .i64 0, .slice none 0 0]) (by simp [results, Tryz.results74, go_sem, r0, r1, r2]) rfl (HN.out _ HB.out)
  · by_cases hk : r.kind = 0
    · have HN := Lib.hid (HZ.out (over_none (.inr (.inl hk))))
      have hq : (r.kind == 0) = true := by simp [hk]
      have hf' : 0 ≤ othL p.links k n := by omega
      clear HZ GG hk hf
      go_enter Tryz.func74, Tryz.ntmps74
      go_wp2_with fail
      refine (otherX_any p h k n _ PX.out.pr.net HG.out).mono ?_
      rintro e w1 ⟨rfl, hb1⟩
      have P1 := Lib.hid (PX.out.call hb1)
      obtain ⟨hfin, ⟨r0, r1, r2⟩, ⟨f0, f1, f2⟩⟩ := rt_put (r := rtNone) (A := none) (c := 0) P1.out.pr.below (show w.heap.size ≤ w.heap.size + 1 + 1 by omega) P1.out.out (.int .i64 0) (.int .i64 0) (.slice none 0 0)
      have HB := Lib.hid hfin
      obtain ⟨b0, b1, b2⟩ := P1.out.pr.at_
      clear hb1 hfin
      go_wp2
      exact bodyPost_ret (v := .agg #[.int .i64 0, .int .i64 0, .slice none 0 0]) (by simp [results, Tryz.results74, go_sem, r0, r1, r2]) rfl (HN.out _ HB.out)
    · obtain ⟨e1, e2, e3, e4⟩ := GG.ends hf
      have hq : (r.kind == 0) = false := by simp [hk]
      generalize hj : othL p.links k n = j at *
      have HJ := Lib.hid hj
      obtain ⟨j, rfl⟩ : ∃ q : Nat, j = q := ⟨j.toNat, by omega⟩
      obtain ⟨n, rfl⟩ : ∃ q : Nat, n = q := ⟨n.toNat, by omega⟩
      obtain ⟨k, rfl⟩ : ∃ q : Nat, k = q := ⟨k.toNat, by omega⟩
      have hf' : (0 : Int) ≤ (j : Int) := by omega
      have hjn : j < p.nodes.length := by omega
      have hnn : n < p.nodes.length := by omega
      have hkn : k < p.links.length := by omega
      clear e1 e2 e3 hf hj
      cases hH : holdsB p j r with
      | false =>
        have HN := Lib.hid (HZ.out (over_none (.inr (.inr (by rw [HJ.out, ← holds_iff, hH]; simp)))))
        clear HZ GG hk e4
        go_enter Tryz.func74, Tryz.ntmps74
        go_wp2_with fail
        refine (otherX_any p h k n _ PX.out.pr.net HG.out).mono ?_
        rintro e w1 ⟨rfl, hb1⟩
        rw [HJ.out]
        have P1 := Lib.hid (PX.out.call hb1)
        obtain ⟨b0, b1, b2⟩ := P1.out.pr.at_
        obtain ⟨c0, c1, c2, c3, c4, c5, c6⟩ := P1.out.pr.all
        clear hb1
        go_wp2_with fail
        refine (holds_any p h j r A c _ P1.out.pr.net hjn P1.out.pr.rt).mono ?_
        rintro e w2 ⟨rfl, hb2⟩
        rw [hH]
        have P2 := Lib.hid (P1.out.call hb2)
        obtain ⟨hfin, ⟨r0, r1, r2⟩, ⟨f0, f1, f2⟩⟩ := rt_put (r := rtNone) (A := none) (c := 0) P2.out.pr.below (show w.heap.size ≤ w.heap.size + 1 + 1 by omega) P2.out.out (.int .i64 0) (.int .i64 0) (.slice none 0 0)
        have HB := Lib.hid hfin
        clear hb2 hfin b0 b1 b2 c0 c1 c2 c3 c4 c5 c6
        go_wp2
        exact bodyPost_ret (v := .agg #[.int .i64 0, .int .i64 0, .slice none 0 0]) (by simp [results, Tryz.results74, go_sem, r0, r1, r2]) rfl (HN.out _ HB.out)
      | true =>
        have hHolds := holds_iff.1 hH
        have hok := rt_ok hHolds.1.right
        have HO := Lib.hid (show overR p k n r = if holdsB p n (overV p (costOf p k) (asOf p j) r) = true then overV p (costOf p k) (asOf p j) r else rtNone from by unfold overR; rw [HJ.out, if_neg (by rw [hH]; rintro (h | h | h); omega; exact hk h; cases h)])
        have hl12 : r.path.length ≤ 900 := by have := hok.short; omega
        obtain ⟨x, hx⟩ : ∃ x, p.nodes[j]? = some x := ⟨_, List.getElem?_eq_getElem hjn⟩
        obtain ⟨y, hy⟩ : ∃ y, p.nodes[n]? = some y := ⟨_, List.getElem?_eq_getElem hnn⟩
        obtain ⟨z, hz⟩ : ∃ z, p.links[k]? = some z := ⟨_, List.getElem?_eq_getElem hkn⟩
        have hcz : costOf p k = z.cost := by simp [costOf, hz]
        have hax : asOf p j = x.as_ := by simp [asOf, hx]
        rw [hcz] at e4
        rw [hcz, hax] at HO
        obtain ⟨bn, on, en, -, x0, x1⟩ := HP.out.nodes.node hx
        obtain ⟨bn', on', en', -, y0, y1⟩ := HP.out.nodes.node hy
        rw [en] at en'
        injection en' with en'
        injection en' with en1 en2
        subst en1 en2
        obtain ⟨bl, ol, el, -, -, -, z2⟩ := HP.out.links.link hz
        have hbn : bn < w.heap.size := cell_lt x0
        have hbl : bl < w.heap.size := cell_lt z2
        generalize hL3 : ([.cells (netCells p h) 30, .cells #[.int .i64 r.kind, .int .i64 r.cost, .slice A r.path.length c] 48, .cells #[.int .i64 0, .int .i64 0, .slice none 0 0] 48] : List Obj) = L3
        have BX : Hid (Bl w (((w.alloc (.cells (netCells p h) 30)).alloc (.cells #[.int .i64 r.kind, .int .i64 r.cost, .slice A r.path.length c] 48)).alloc (.cells #[.int .i64 0, .int .i64 0, .slice none 0 0] 48)) L3) := Lib.hid (by
          subst hL3
          exact (((Bl.begin w).push (by simp) _).push (by simp) _).push (by simp) _)
        have HC : Hid (∀ wy, Bl w wy L3 → (fun wy => wy.cell? ⟨w.heap.size, 0, none⟩ = some (.int .i64 p.proto) ∧ wy.cell? ⟨w.heap.size, 1, none⟩ = some (.int .i64 p.cap) ∧ wy.cell? ⟨w.heap.size, 2, none⟩ = some (.int .i64 p.k) ∧ wy.cell? ⟨w.heap.size, 3, none⟩ = some (.slice (some ⟨bn, on, none⟩) p.nodes.length h.cn) ∧ wy.cell? ⟨w.heap.size, 4, none⟩ = some (.slice (some ⟨bl, ol, none⟩) p.links.length h.cl) ∧ wy.cell? ⟨w.heap.size, 5, none⟩ = some (.slice h.ad p.dests.length h.cd) ∧ wy.cell? ⟨w.heap.size, 6, none⟩ = some (.slice h.ac p.checks.length h.cc) ∧ wy.cell? ⟨w.heap.size + 1, 0, none⟩ = some (.int .i64 r.kind) ∧ wy.cell? ⟨w.heap.size + 1, 1, none⟩ = some (.int .i64 r.cost) ∧ wy.cell? ⟨w.heap.size + 1, 2, none⟩ = some (.slice A r.path.length c) ∧ wy.cell? ⟨bn, on + j * 2, none⟩ = some (.string x.name) ∧ wy.cell? ⟨bn, on + j * 2 + 1, none⟩ = some (.int .i64 x.as_) ∧ wy.cell? ⟨bn, on + n * 2, none⟩ = some (.string y.name) ∧ wy.cell? ⟨bn, on + n * 2 + 1, none⟩ = some (.int .i64 y.as_) ∧ wy.cell? ⟨bl, ol + k * 3 + 2, none⟩ = some (.int .i64 z.cost)) wy) := Lib.hid (fun wy a => by
          subst hL3
          have q3 := a.cell (i := 0) (k := 3) rfl
          have q4 := a.cell (i := 0) (k := 4) rfl
          simp only [netCells, en, el] at q3 q4
          exact ⟨a.cell (i := 0) (k := 0) rfl, a.cell (i := 0) (k := 1) rfl, a.cell (i := 0) (k := 2) rfl, q3, q4, a.cell (i := 0) (k := 5) rfl, a.cell (i := 0) (k := 6) rfl, a.cell (i := 1) (k := 0) rfl, a.cell (i := 1) (k := 1) rfl, a.cell (i := 1) (k := 2) rfl,
            (a.below.cell (p := ⟨bn, on + j * 2, none⟩) hbn).trans x0, (a.below.cell (p := ⟨bn, on + j * 2 + 1, none⟩) hbn).trans x1, (a.below.cell (p := ⟨bn, on + n * 2, none⟩) hbn).trans y0, (a.below.cell (p := ⟨bn, on + n * 2 + 1, none⟩) hbn).trans y1, (a.below.cell (p := ⟨bl, ol + k * 3 + 2, none⟩) hbl).trans z2⟩)
        have HOUT : Hid (∀ wy, Bl w wy L3 → wy.heap[w.heap.size + 1 + 1]? = some (.cells #[.int .i64 0, .int .i64 0, .slice none 0 0] 48 (0, 0))) := Lib.hid (fun wy a => by subst hL3; exact a.at_ 2 _ rfl)
        have HL3 : Hid (L3.length = 3) := Lib.hid (by subst hL3; rfl)
        have HE := Lib.hid en
        have HE' := Lib.hid el
        have CO := Lib.hid (fun (wy : World) (hb : Bl w wy L3) => (show Calls Tryz.prog 71 #[.agg #[.int .i64 p.proto, .int .i64 p.cap, .int .i64 p.k, .slice (some ⟨bn, on, none⟩) p.nodes.length h.cn, .slice (some ⟨bl, ol, none⟩) p.links.length h.cl, .slice h.ad p.dests.length h.cd, .slice h.ac p.checks.length h.cc]] wy fun e w' => e = .returned (protoV p) ∧ Bl w w' L3 ∧ Below wy.heap.size wy w' from by
          have h1 := of_any p h wy
          unfold netV netVal at h1
          rw [HE.out, HE'.out] at h1
          exact h1.mono fun e w' ⟨h1, h2⟩ => ⟨h1, hb.call h2, h2⟩))
        have HRB := Lib.hid (fun (wy : World) (hb : Below w.heap.size w wy) => (HRR.out.below hb (Nat.le_refl _)).more hb.size)
        have HPB := Lib.hid (fun (wy : World) (hb : Below w.heap.size w wy) => (HP.out.below hb (Nat.le_refl _)).more hb.size)
        have HV : Hid (∀ wx, Below w.heap.size w wx → ∀ v A' c', overR p k n r = v → OwnOr wx w.heap.size A' c' v.path → OrPost (overR p k n r) w (.returned (.agg #[.int .i64 v.kind, .int .i64 v.cost, .slice A' v.path.length c'])) wx) := Lib.hid (fun wx hb v A' c' e hr => by rw [e]; exact ⟨A', c', rfl, hr, hb⟩)
        by_cases h2 : p.proto = 2
        · have hov : overV p z.cost x.as_ r = ⟨r.kind, r.cost, x.as_ :: r.path⟩ := by unfold overV; rw [if_pos h2]
          have CV := Lib.hid (fun (wy : World) (hb : Bl w wy L3) => (show Calls Tryz.prog 168 #[.agg #[.int .i64 p.cap], .int .i64 z.cost, .agg #[.string x.name, .int .i64 x.as_], .agg #[.string y.name, .int .i64 y.as_], .agg #[.int .i64 r.kind, .int .i64 r.cost, .slice A r.path.length c]] wy fun e w' => ∃ A' c', e = .returned (.agg #[.int .i64 r.kind, .int .i64 r.cost, .slice A' (x.as_ :: r.path).length c']) ∧ OwnOr w' wy.heap.size A' c' (x.as_ :: r.path) ∧ Bl w w' L3 ∧ Below wy.heap.size wy w' from
            (pover_any p.cap z.cost x y r A c wy (HRB.out wy hb.below) hl12).mono fun e w' ⟨A', c', h1, h2, h3⟩ => ⟨A', c', h1, h2, hb.call h3, h3⟩))
          rw [show protoV p = .iface 117 (.agg #[.int .i64 p.cap]) from by unfold protoV; rw [if_pos h2]] at CO
          rw [hov] at HO
          have HQ : Hid (∀ wx, Below w.heap.size w wx → (holdsB p n ⟨r.kind, r.cost, x.as_ :: r.path⟩ = true → ∀ A' c', OwnOr wx (w.heap.size + 3) A' c' (x.as_ :: r.path) → OrPost (overR p k n r) w (.returned (.agg #[.int .i64 r.kind, .int .i64 r.cost, .slice A' (x.as_ :: r.path).length c'])) wx) ∧ (holdsB p n ⟨r.kind, r.cost, x.as_ :: r.path⟩ = false → OrPost (overR p k n r) w (.returned (.agg #[.int .i64 0, .int .i64 0, .slice none 0 0])) wx)) := Lib.hid (fun wx hb => ⟨fun hq A' c' ho => by
              rw [if_pos hq] at HO
              exact HV.out wx hb _ A' c' HO.out (ho.more (by omega)), fun hq => by
              rw [if_neg (by rw [hq]; simp)] at HO
              rw [HO.out]; exact ⟨none, 0, rfl, OwnOr.nil, hb⟩⟩)
          clear HV HO hov
          have HHO := Lib.hid (fun wy A' c' (a : Bl w wy L3) (hr : OwnOr wy (w.heap.size + 3) A' c' (x.as_ :: r.path)) => (holds_any p h n ⟨r.kind, r.cost, x.as_ :: r.path⟩ A' c' wy (HPB.out wy a.below) hnn (hr.rt _ _)).mono (R' := fun e w' => e = .returned (.bool (holdsB p n ⟨r.kind, r.cost, x.as_ :: r.path⟩)) ∧ Bl w w' L3 ∧ OwnOr w' (w.heap.size + 3) A' c' (x.as_ :: r.path) ∧ Below wy.heap.size wy w') fun e w' ⟨h1, h2⟩ => ⟨h1, a.call h2, hr.call h2, h2⟩)
          generalize holdsB p n ⟨r.kind, r.cost, x.as_ :: r.path⟩ = q at *
          unfold rtV at HHO
          simp only at HHO
          generalize hgl : ((x.as_ :: r.path) : List Int) = l' at *
          have hq2 : p.proto = p.proto := rfl
          clear hk h2 hax hcz hx hy hz x0 x1 y0 y1 z2 en el hL3 GG HZ hgl hq2 hHolds
          go_enter Tryz.func74, Tryz.ntmps74
          go_wp2_with fail
          refine (otherX_any p h k n _ (HPB.out _ BX.out.below) HG.out).mono ?_
          rintro e w1 ⟨rfl, hb1⟩
          rw [HJ.out]
          have B1 := Lib.hid (BX.out.call hb1)
          obtain ⟨s0, s1, s2, s3, s4, s5, s6, s7, s8, s9, -, -, -, -, -⟩ := HC.out _ B1.out
          clear hb1
          go_wp2_with fail
          have hho := holds_any p h j r A c w1 (HPB.out _ B1.out.below) hjn (HRB.out _ B1.out.below)
          unfold netV netVal at hho
          rw [HE.out, HE'.out] at hho
          refine hho.mono ?_
          rintro e w2 ⟨rfl, hb2⟩
          rw [hH]
          have B2 := Lib.hid (B1.out.call hb2)
          clear hb2 hho s0 s1 s2 s3 s4 s5 s6 s7 s8 s9 B1 hH
          go_upto_region 4 with fail
          go_cut [10] (fun s wx => ∃ (b : Nat) (A' : Option Addr) (c' : Nat), s = .pointer (some ⟨b, 0, none⟩) ∧ wx.heap[b]? = some (.cells #[.int .i64 r.kind, .int .i64 r.cost, .slice A' l'.length c'] 48 (0, 0)) ∧ OwnOr wx (w.heap.size + 3) A' c' l' ∧ Bl w wx L3)
          case first =>
            go_wp2_with fail
            have hp0 := B2.out
            have hl30 := HL3.out
            have hs30 : w.heap.size + 3 ≤ w2.heap.size := by have := B2.out.lt (i := 2) (by omega); omega
            refine wp_region_held_drew (S := (fun wy => wy.cell? ⟨w.heap.size, 0, none⟩ = some (.int .i64 p.proto) ∧ wy.cell? ⟨w.heap.size, 1, none⟩ = some (.int .i64 p.cap) ∧ wy.cell? ⟨w.heap.size, 2, none⟩ = some (.int .i64 p.k) ∧ wy.cell? ⟨w.heap.size, 3, none⟩ = some (.slice (some ⟨bn, on, none⟩) p.nodes.length h.cn) ∧ wy.cell? ⟨w.heap.size, 4, none⟩ = some (.slice (some ⟨bl, ol, none⟩) p.links.length h.cl) ∧ wy.cell? ⟨w.heap.size, 5, none⟩ = some (.slice h.ad p.dests.length h.cd) ∧ wy.cell? ⟨w.heap.size, 6, none⟩ = some (.slice h.ac p.checks.length h.cc) ∧ wy.cell? ⟨w.heap.size + 1, 0, none⟩ = some (.int .i64 r.kind) ∧ wy.cell? ⟨w.heap.size + 1, 1, none⟩ = some (.int .i64 r.cost) ∧ wy.cell? ⟨w.heap.size + 1, 2, none⟩ = some (.slice A r.path.length c) ∧ wy.cell? ⟨bn, on + j * 2, none⟩ = some (.string x.name) ∧ wy.cell? ⟨bn, on + j * 2 + 1, none⟩ = some (.int .i64 x.as_) ∧ wy.cell? ⟨bn, on + n * 2, none⟩ = some (.string y.name) ∧ wy.cell? ⟨bn, on + n * 2 + 1, none⟩ = some (.int .i64 y.as_) ∧ wy.cell? ⟨bl, ol + k * 3 + 2, none⟩ = some (.int .i64 z.cost))) (by kernel_rfl) (HC.out _ hp0.drew) (fun hHeld0 => ?_)
            refine take_list (i := 0) (v := ?_) rfl (by kernel_rfl) (by kernel_rfl) (by kernel_rfl) (fun _ _ _ h => h) (Or.inl ⟨by rfl, ?_⟩) (by assumption) ?_
            rotate_left
            · (intro w hSw; (try dsimp only at hSw); go_simp; try (with_reducible rfl))
            try simp only [Act.put, List.setIfInBounds_toArray, List.set_cons_zero, List.set_cons_succ]
            refine take_list (i := 2) (v := ?_) rfl (by kernel_rfl) (by kernel_rfl) (by kernel_rfl) (fun _ _ _ h => h) (Or.inl ⟨by rfl, ?_⟩) (by assumption) ?_
            rotate_left
            · (intro w hSw; (try dsimp only at hSw); go_simp; try (with_reducible rfl))
            try simp only [Act.put, List.setIfInBounds_toArray, List.set_cons_zero, List.set_cons_succ]
            refine take_list (i := 3) (v := ?_) rfl (by kernel_rfl) (by kernel_rfl) (by kernel_rfl) (fun _ _ _ h => h) (Or.inl ⟨by rfl, ?_⟩) (by assumption) ?_
            rotate_left
            · (intro w hSw; (try dsimp only at hSw); go_simp; try (with_reducible rfl))
            try simp only [Act.put, List.setIfInBounds_toArray, List.set_cons_zero, List.set_cons_succ]
            refine take_list (i := 4) (v := ?_) rfl (by kernel_rfl) (by kernel_rfl) (by kernel_rfl) (fun _ _ _ h => h) (Or.inl ⟨by rfl, ?_⟩) (by assumption) ?_
            rotate_left
            · (intro w hSw; (try dsimp only at hSw); go_simp; try (with_reducible rfl))
            try simp only [Act.put, List.setIfInBounds_toArray, List.set_cons_zero, List.set_cons_succ]
            refine take_list (i := 5) (v := ?_) rfl (by kernel_rfl) (by kernel_rfl) (by kernel_rfl) (fun _ _ _ h => h) (Or.inl ⟨by rfl, ?_⟩) (by assumption) ?_
            rotate_left
            · (intro w hSw; (try dsimp only at hSw); go_simp; try (with_reducible rfl))
            try simp only [Act.put, List.setIfInBounds_toArray, List.set_cons_zero, List.set_cons_succ]
            refine take_list (i := 6) (v := ?_) rfl (by kernel_rfl) (by kernel_rfl) (by kernel_rfl) (fun _ _ _ h => h) (Or.inl ⟨by rfl, ?_⟩) (by assumption) ?_
            rotate_left
            · (intro w hSw; (try dsimp only at hSw); go_simp; try (with_reducible rfl))
            try simp only [Act.put, List.setIfInBounds_toArray, List.set_cons_zero, List.set_cons_succ]
            refine take_list (i := 7) (v := ?_) rfl (by kernel_rfl) (by kernel_rfl) (by kernel_rfl) (fun _ _ _ h => h) (Or.inl ⟨by rfl, ?_⟩) (by assumption) ?_
            rotate_left
            · (intro w hSw; (try dsimp only at hSw); go_simp; try (with_reducible rfl))
            try simp only [Act.put, List.setIfInBounds_toArray, List.set_cons_zero, List.set_cons_succ]
            refine take_list (i := 8) (v := ?_) rfl (by kernel_rfl) (by kernel_rfl) (by kernel_rfl) (fun _ _ _ h => h) (Or.inl ⟨by rfl, ?_⟩) (by assumption) ?_
            rotate_left
            · (intro w hSw; (try dsimp only at hSw); go_simp; try (with_reducible rfl))
            try simp only [Act.put, List.setIfInBounds_toArray, List.set_cons_zero, List.set_cons_succ]
            refine take_list (i := 9) (v := ?_) rfl (by kernel_rfl) (by kernel_rfl) (by kernel_rfl) (fun _ _ _ h => h) (Or.inl ⟨by rfl, ?_⟩) (by assumption) ?_
            rotate_left
            · (intro w hSw; (try dsimp only at hSw); go_simp; try (with_reducible rfl))
            try simp only [Act.put, List.setIfInBounds_toArray, List.set_cons_zero, List.set_cons_succ]
            refine take_list (i := 10) (v := ?_) rfl (by kernel_rfl) (by kernel_rfl) (by kernel_rfl) (fun _ _ _ h => h) (Or.inl ⟨by rfl, ?_⟩) (by assumption) ?_
            rotate_left
            · (intro w hSw; (try dsimp only at hSw); go_simp; try (with_reducible rfl))
            try simp only [Act.put, List.setIfInBounds_toArray, List.set_cons_zero, List.set_cons_succ]
            refine take_list (i := 11) (v := ?_) rfl (by kernel_rfl) (by kernel_rfl) (by kernel_rfl) (fun _ _ _ h => h) (Or.inl ⟨by rfl, ?_⟩) (by assumption) ?_
            rotate_left
            · (intro w hSw; (try dsimp only at hSw); go_simp; try (with_reducible rfl))
            try simp only [Act.put, List.setIfInBounds_toArray, List.set_cons_zero, List.set_cons_succ]
            refine take_list (i := 12) (v := ?_) rfl (by kernel_rfl) (by kernel_rfl) (by kernel_rfl) (fun _ _ _ h => h) (Or.inl ⟨by rfl, ?_⟩) (by assumption) ?_
            rotate_left
            · (intro w hSw; (try dsimp only at hSw); go_simp; try (with_reducible rfl))
            try simp only [Act.put, List.setIfInBounds_toArray, List.set_cons_zero, List.set_cons_succ]
            refine take_list (i := 13) (v := ?_) rfl (by kernel_rfl) (by kernel_rfl) (by kernel_rfl) (fun _ _ _ h => h) (Or.inl ⟨by rfl, ?_⟩) (by assumption) ?_
            rotate_left
            · (intro w hSw; (try dsimp only at hSw); go_simp; try (with_reducible rfl))
            try simp only [Act.put, List.setIfInBounds_toArray, List.set_cons_zero, List.set_cons_succ]
            refine take_list (i := 14) (v := ?_) rfl (by kernel_rfl) (by kernel_rfl) (by kernel_rfl) (fun _ _ _ h => h) (Or.inl ⟨by rfl, ?_⟩) (by assumption) ?_
            rotate_left
            · (intro w hSw; (try dsimp only at hSw); go_simp; try (with_reducible rfl))
            try simp only [Act.put, List.setIfInBounds_toArray, List.set_cons_zero, List.set_cons_succ]
            refine take_list (i := 15) (v := ?_) rfl (by kernel_rfl) (by kernel_rfl) (by kernel_rfl) (fun _ _ _ h => h) (Or.inl ⟨by rfl, ?_⟩) (by assumption) ?_
            rotate_left
            · (intro w hSw; (try dsimp only at hSw); go_simp; try (with_reducible rfl))
            try simp only [Act.put, List.setIfInBounds_toArray, List.set_cons_zero, List.set_cons_succ]
            refine take_list (i := 16) (v := ?_) rfl (by kernel_rfl) (by kernel_rfl) (by kernel_rfl) (fun _ _ _ h => h) (Or.inl ⟨by rfl, ?_⟩) (by assumption) ?_
            rotate_left
            · (intro w hSw; (try dsimp only at hSw); go_simp; try (with_reducible rfl))
            try simp only [Act.put, List.setIfInBounds_toArray, List.set_cons_zero, List.set_cons_succ]
            refine take_list (i := 17) (v := ?_) rfl (by kernel_rfl) (by kernel_rfl) (by kernel_rfl) (fun _ _ _ h => h) (Or.inl ⟨by rfl, ?_⟩) (by assumption) ?_
            rotate_left
            · (intro w hSw; (try dsimp only at hSw); go_simp; try (with_reducible rfl))
            try simp only [Act.put, List.setIfInBounds_toArray, List.set_cons_zero, List.set_cons_succ]
            refine take_list (i := 18) (v := ?_) rfl (by kernel_rfl) (by kernel_rfl) (by kernel_rfl) (fun _ _ _ h => h) (Or.inl ⟨by rfl, ?_⟩) (by assumption) ?_
            rotate_left
            · (intro w hSw; (try dsimp only at hSw); go_simp; try (with_reducible rfl))
            try simp only [Act.put, List.setIfInBounds_toArray, List.set_cons_zero, List.set_cons_succ]
            refine wpAnyH_ready (rs := [1, 23]) (by kernel_rfl) (by simp) ?_
            refine cons_list rfl (fun K hK => ?_) (cons_list rfl (fun K hK => ?_) AllReadyH.nil)
            ·
              go_simp
              (go_at_call 71; refine (CO.out _ (by repeat (first | assumption | (refine Bl.drew ?_) | (refine Bl.alloc ?_ _) | (refine Bl.set ?_ (by dsimp only; omega) _)))).mono ?_; rintro e wm ⟨rfl, hpm, hbm⟩)
              refine hK.out _ _ (HC.out _ (by repeat (first | assumption | (refine Bl.drew ?_) | (refine Bl.alloc ?_ _) | (refine Bl.set ?_ (by dsimp only; omega) _)))) (fun hHeld1 => ?_)
              clear hK K hHeld0
              try simp only [Act.put, List.setIfInBounds_toArray, List.set_cons_zero, List.set_cons_succ]
              refine wpAnyH_ready (rs := [19, 23]) (by kernel_rfl) (by simp) ?_
              refine cons_list rfl (fun K hK => ?_) (cons_list rfl (fun K hK => ?_) AllReadyH.nil)
              ·
                go_simp
                refine hK.out _ _ (HC.out _ (by repeat (first | assumption | (refine Bl.drew ?_) | (refine Bl.alloc ?_ _) | (refine Bl.set ?_ (by dsimp only; omega) _)))) (fun hHeld2 => ?_)
                clear hK K hHeld1
                try simp only [Act.put, List.setIfInBounds_toArray, List.set_cons_zero, List.set_cons_succ]
                refine wpAnyH_ready (rs := [20, 23]) (by kernel_rfl) (by simp) ?_
                refine cons_list rfl (fun K hK => ?_) (cons_list rfl (fun K hK => ?_) AllReadyH.nil)
                ·
                  go_simp
                  refine hK.out _ _ (HC.out _ (by repeat (first | assumption | (refine Bl.drew ?_) | (refine Bl.alloc ?_ _) | (refine Bl.set ?_ (by dsimp only; omega) _)))) (fun hHeld3 => ?_)
                  clear hK K hHeld2
                  try simp only [Act.put, List.setIfInBounds_toArray, List.set_cons_zero, List.set_cons_succ]
                  refine take_list (i := 21) (v := ?_) rfl (by kernel_rfl) (by kernel_rfl) (by kernel_rfl) (fun _ _ _ h => h) (Or.inl ⟨by rfl, ?_⟩) (by assumption) ?_
                  rotate_left
                  · (intro w hSw; (try dsimp only at hSw); go_simp; try (with_reducible rfl))
                  try simp only [Act.put, List.setIfInBounds_toArray, List.set_cons_zero, List.set_cons_succ]
                  refine wpAnyH_ready (rs := [22, 23]) (by kernel_rfl) (by simp) ?_
                  refine cons_list rfl (fun K hK => ?_) (cons_list rfl (fun K hK => ?_) AllReadyH.nil)
                  ·
                    go_simp
                    (go_invoke; go_upon; go_at_call 168; refine (CV.out _ (by repeat (first | assumption | (refine Bl.drew ?_) | (refine Bl.alloc ?_ _) | (refine Bl.set ?_ (by dsimp only; omega) _)))).mono ?_; rintro e wq ⟨A', c', rfl, hown, hpq, hbq⟩; have hsm := hbm.size; have hsq := hbq.size; simp only [World.size_alloc, World.size_drew] at hsm hsq; try (have hltA : w2.heap.size < wm.heap.size := by omega))
                    refine hK.out _ _ (HC.out _ (by repeat (first | assumption | (refine Bl.drew ?_) | (refine Bl.alloc ?_ _) | (refine Bl.set ?_ (by dsimp only; omega) _)))) (fun hHeld4 => ?_)
                    clear hK K hHeld3
                    try simp only [Act.put, List.setIfInBounds_toArray, List.set_cons_zero, List.set_cons_succ]
                    refine wpAnyH_ready (rs := [23]) (by kernel_rfl) (by simp) ?_
                    refine cons_list rfl (fun K hK => ?_) AllReadyH.nil
                    go_simp
                    refine hK.out _ _ (HC.out _ (by repeat (first | assumption | (refine Bl.drew ?_) | (refine Bl.alloc ?_ _) | (refine Bl.set ?_ (by dsimp only; omega) _)))) (fun hHeld5 => ?_)
                    clear hK K hHeld4
                    try simp only [Act.put, List.setIfInBounds_toArray, List.set_cons_zero, List.set_cons_succ]
                    refine wpAnyH_ready (rs := [24]) (by kernel_rfl) (by simp) ?_
                    refine cons_list rfl (fun K hK => ?_) AllReadyH.nil
                    (first | (have kz := new_kept hbq; have kr0 := cell_of_row wq _ 0 _ _ _ kz; have kr1 := cell_of_row wq _ 1 _ _ _ kz; have kr2 := cell_of_row wq _ 2 _ _ _ kz; have kf0 := frozen_of_row wq _ 0 _ _ kz; have kf1 := frozen_of_row wq _ 1 _ _ kz; have kf2 := frozen_of_row wq _ 2 _ _ kz) | (have kz : wq.heap[w2.heap.size]? = some (.cells #[.int .i64 0, .int .i64 0, .slice none 0 0] 48 (0, 0)) := (hbq.block _ (lt_heap (new_kept_d hbm))).trans (new_kept_d hbm); have kr0 := cell_of_row wq _ 0 _ _ _ kz; have kr1 := cell_of_row wq _ 1 _ _ _ kz; have kr2 := cell_of_row wq _ 2 _ _ _ kz; have kf0 := frozen_of_row wq _ 0 _ _ kz; have kf1 := frozen_of_row wq _ 1 _ _ kz; have kf2 := frozen_of_row wq _ 2 _ _ kz) | skip)
                    go_simp
                    refine hK.out _ _ (HC.out _ (by repeat (first | assumption | (refine Bl.drew ?_) | (refine Bl.alloc ?_ _) | (refine Bl.set ?_ (by dsimp only; omega) _)))) (fun hHeld6 => ?_)
                    clear hK K hHeld5
                    try simp only [Act.put, List.setIfInBounds_toArray, List.set_cons_zero, List.set_cons_succ]
                    refine wpAnyH_done (by kernel_rfl) ?_ _
                    clear hHeld6
                    go_wp2
                    go_meet
                    case rel => refine ⟨_, A', c', rfl, ?_, ?_, (by repeat (first | assumption | (refine Bl.drew ?_) | (refine Bl.alloc ?_ _) | (refine Bl.set ?_ (by dsimp only; omega) _)))⟩ <;> first | exact (box_put kz hown hltA (Nat.le_refl _)).1 | exact (box_put kz hown hltA (by omega)).2 | exact (box_new hown (Nat.le_refl _)).1 | exact (box_new hown (by omega)).2 | exact (box_put kz hown (by rw [World.size_alloc]; exact Nat.lt_succ_self _) (Nat.le_refl _)).1 | exact (box_put kz hown (by rw [World.size_alloc]; exact Nat.lt_succ_self _) (by have q1 := hbm.size; rw [World.size_alloc]; (try simp only [World.size_drew] at q1); omega)).2
                  ·
                    go_simp
                    refine hK.out _ _ (HC.out _ (by repeat (first | assumption | (refine Bl.drew ?_) | (refine Bl.alloc ?_ _) | (refine Bl.set ?_ (by dsimp only; omega) _)))) (fun hHeld4 => ?_)
                    clear hK K hHeld3
                    try simp only [Act.put, List.setIfInBounds_toArray, List.set_cons_zero, List.set_cons_succ]
                    refine wpAnyH_ready (rs := [22]) (by kernel_rfl) (by simp) ?_
                    refine cons_list rfl (fun K hK => ?_) AllReadyH.nil
                    go_simp
                    (go_invoke; go_upon; go_at_call 168; refine (CV.out _ (by repeat (first | assumption | (refine Bl.drew ?_) | (refine Bl.alloc ?_ _) | (refine Bl.set ?_ (by dsimp only; omega) _)))).mono ?_; rintro e wq ⟨A', c', rfl, hown, hpq, hbq⟩; have hsm := hbm.size; have hsq := hbq.size; simp only [World.size_alloc, World.size_drew] at hsm hsq; try (have hltA : w2.heap.size < wm.heap.size := by omega))
                    refine hK.out _ _ (HC.out _ (by repeat (first | assumption | (refine Bl.drew ?_) | (refine Bl.alloc ?_ _) | (refine Bl.set ?_ (by dsimp only; omega) _)))) (fun hHeld5 => ?_)
                    clear hK K hHeld4
                    try simp only [Act.put, List.setIfInBounds_toArray, List.set_cons_zero, List.set_cons_succ]
                    refine wpAnyH_ready (rs := [24]) (by kernel_rfl) (by simp) ?_
                    refine cons_list rfl (fun K hK => ?_) AllReadyH.nil
                    (first | (have kz := new_kept hbq; have kr0 := cell_of_row wq _ 0 _ _ _ kz; have kr1 := cell_of_row wq _ 1 _ _ _ kz; have kr2 := cell_of_row wq _ 2 _ _ _ kz; have kf0 := frozen_of_row wq _ 0 _ _ kz; have kf1 := frozen_of_row wq _ 1 _ _ kz; have kf2 := frozen_of_row wq _ 2 _ _ kz) | (have kz : wq.heap[w2.heap.size]? = some (.cells #[.int .i64 0, .int .i64 0, .slice none 0 0] 48 (0, 0)) := (hbq.block _ (lt_heap (new_kept_d hbm))).trans (new_kept_d hbm); have kr0 := cell_of_row wq _ 0 _ _ _ kz; have kr1 := cell_of_row wq _ 1 _ _ _ kz; have kr2 := cell_of_row wq _ 2 _ _ _ kz; have kf0 := frozen_of_row wq _ 0 _ _ kz; have kf1 := frozen_of_row wq _ 1 _ _ kz; have kf2 := frozen_of_row wq _ 2 _ _ kz) | skip)
                    go_simp
                    refine hK.out _ _ (HC.out _ (by repeat (first | assumption | (refine Bl.drew ?_) | (refine Bl.alloc ?_ _) | (refine Bl.set ?_ (by dsimp only; omega) _)))) (fun hHeld6 => ?_)
                    clear hK K hHeld5
                    try simp only [Act.put, List.setIfInBounds_toArray, List.set_cons_zero, List.set_cons_succ]
                    refine wpAnyH_done (by kernel_rfl) ?_ _
                    clear hHeld6
                    go_wp2
                    go_meet
                    case rel => refine ⟨_, A', c', rfl, ?_, ?_, (by repeat (first | assumption | (refine Bl.drew ?_) | (refine Bl.alloc ?_ _) | (refine Bl.set ?_ (by dsimp only; omega) _)))⟩ <;> first | exact (box_put kz hown hltA (Nat.le_refl _)).1 | exact (box_put kz hown hltA (by omega)).2 | exact (box_new hown (Nat.le_refl _)).1 | exact (box_new hown (by omega)).2 | exact (box_put kz hown (by rw [World.size_alloc]; exact Nat.lt_succ_self _) (Nat.le_refl _)).1 | exact (box_put kz hown (by rw [World.size_alloc]; exact Nat.lt_succ_self _) (by have q1 := hbm.size; rw [World.size_alloc]; (try simp only [World.size_drew] at q1); omega)).2
                ·
                  go_simp
                  refine hK.out _ _ (HC.out _ (by repeat (first | assumption | (refine Bl.drew ?_) | (refine Bl.alloc ?_ _) | (refine Bl.set ?_ (by dsimp only; omega) _)))) (fun hHeld3 => ?_)
                  clear hK K hHeld2
                  try simp only [Act.put, List.setIfInBounds_toArray, List.set_cons_zero, List.set_cons_succ]
                  refine wpAnyH_ready (rs := [20]) (by kernel_rfl) (by simp) ?_
                  refine cons_list rfl (fun K hK => ?_) AllReadyH.nil
                  go_simp
                  refine hK.out _ _ (HC.out _ (by repeat (first | assumption | (refine Bl.drew ?_) | (refine Bl.alloc ?_ _) | (refine Bl.set ?_ (by dsimp only; omega) _)))) (fun hHeld4 => ?_)
                  clear hK K hHeld3
                  try simp only [Act.put, List.setIfInBounds_toArray, List.set_cons_zero, List.set_cons_succ]
                  refine take_list (i := 21) (v := ?_) rfl (by kernel_rfl) (by kernel_rfl) (by kernel_rfl) (fun _ _ _ h => h) (Or.inl ⟨by rfl, ?_⟩) (by assumption) ?_
                  rotate_left
                  · (intro w hSw; (try dsimp only at hSw); go_simp; try (with_reducible rfl))
                  try simp only [Act.put, List.setIfInBounds_toArray, List.set_cons_zero, List.set_cons_succ]
                  refine wpAnyH_ready (rs := [22]) (by kernel_rfl) (by simp) ?_
                  refine cons_list rfl (fun K hK => ?_) AllReadyH.nil
                  go_simp
                  (go_invoke; go_upon; go_at_call 168; refine (CV.out _ (by repeat (first | assumption | (refine Bl.drew ?_) | (refine Bl.alloc ?_ _) | (refine Bl.set ?_ (by dsimp only; omega) _)))).mono ?_; rintro e wq ⟨A', c', rfl, hown, hpq, hbq⟩; have hsm := hbm.size; have hsq := hbq.size; simp only [World.size_alloc, World.size_drew] at hsm hsq; try (have hltA : w2.heap.size < wm.heap.size := by omega))
                  refine hK.out _ _ (HC.out _ (by repeat (first | assumption | (refine Bl.drew ?_) | (refine Bl.alloc ?_ _) | (refine Bl.set ?_ (by dsimp only; omega) _)))) (fun hHeld5 => ?_)
                  clear hK K hHeld4
                  try simp only [Act.put, List.setIfInBounds_toArray, List.set_cons_zero, List.set_cons_succ]
                  refine wpAnyH_ready (rs := [24]) (by kernel_rfl) (by simp) ?_
                  refine cons_list rfl (fun K hK => ?_) AllReadyH.nil
                  (first | (have kz := new_kept hbq; have kr0 := cell_of_row wq _ 0 _ _ _ kz; have kr1 := cell_of_row wq _ 1 _ _ _ kz; have kr2 := cell_of_row wq _ 2 _ _ _ kz; have kf0 := frozen_of_row wq _ 0 _ _ kz; have kf1 := frozen_of_row wq _ 1 _ _ kz; have kf2 := frozen_of_row wq _ 2 _ _ kz) | (have kz : wq.heap[w2.heap.size]? = some (.cells #[.int .i64 0, .int .i64 0, .slice none 0 0] 48 (0, 0)) := (hbq.block _ (lt_heap (new_kept_d hbm))).trans (new_kept_d hbm); have kr0 := cell_of_row wq _ 0 _ _ _ kz; have kr1 := cell_of_row wq _ 1 _ _ _ kz; have kr2 := cell_of_row wq _ 2 _ _ _ kz; have kf0 := frozen_of_row wq _ 0 _ _ kz; have kf1 := frozen_of_row wq _ 1 _ _ kz; have kf2 := frozen_of_row wq _ 2 _ _ kz) | skip)
                  go_simp
                  refine hK.out _ _ (HC.out _ (by repeat (first | assumption | (refine Bl.drew ?_) | (refine Bl.alloc ?_ _) | (refine Bl.set ?_ (by dsimp only; omega) _)))) (fun hHeld6 => ?_)
                  clear hK K hHeld5
                  try simp only [Act.put, List.setIfInBounds_toArray, List.set_cons_zero, List.set_cons_succ]
                  refine wpAnyH_done (by kernel_rfl) ?_ _
                  clear hHeld6
                  go_wp2
                  go_meet
                  case rel => refine ⟨_, A', c', rfl, ?_, ?_, (by repeat (first | assumption | (refine Bl.drew ?_) | (refine Bl.alloc ?_ _) | (refine Bl.set ?_ (by dsimp only; omega) _)))⟩ <;> first | exact (box_put kz hown hltA (Nat.le_refl _)).1 | exact (box_put kz hown hltA (by omega)).2 | exact (box_new hown (Nat.le_refl _)).1 | exact (box_new hown (by omega)).2 | exact (box_put kz hown (by rw [World.size_alloc]; exact Nat.lt_succ_self _) (Nat.le_refl _)).1 | exact (box_put kz hown (by rw [World.size_alloc]; exact Nat.lt_succ_self _) (by have q1 := hbm.size; rw [World.size_alloc]; (try simp only [World.size_drew] at q1); omega)).2
              ·
                go_simp
                refine hK.out _ _ (HC.out _ (by repeat (first | assumption | (refine Bl.drew ?_) | (refine Bl.alloc ?_ _) | (refine Bl.set ?_ (by dsimp only; omega) _)))) (fun hHeld2 => ?_)
                clear hK K hHeld1
                try simp only [Act.put, List.setIfInBounds_toArray, List.set_cons_zero, List.set_cons_succ]
                refine wpAnyH_ready (rs := [19]) (by kernel_rfl) (by simp) ?_
                refine cons_list rfl (fun K hK => ?_) AllReadyH.nil
                go_simp
                refine hK.out _ _ (HC.out _ (by repeat (first | assumption | (refine Bl.drew ?_) | (refine Bl.alloc ?_ _) | (refine Bl.set ?_ (by dsimp only; omega) _)))) (fun hHeld3 => ?_)
                clear hK K hHeld2
                try simp only [Act.put, List.setIfInBounds_toArray, List.set_cons_zero, List.set_cons_succ]
                refine wpAnyH_ready (rs := [20]) (by kernel_rfl) (by simp) ?_
                refine cons_list rfl (fun K hK => ?_) AllReadyH.nil
                go_simp
                refine hK.out _ _ (HC.out _ (by repeat (first | assumption | (refine Bl.drew ?_) | (refine Bl.alloc ?_ _) | (refine Bl.set ?_ (by dsimp only; omega) _)))) (fun hHeld4 => ?_)
                clear hK K hHeld3
                try simp only [Act.put, List.setIfInBounds_toArray, List.set_cons_zero, List.set_cons_succ]
                refine take_list (i := 21) (v := ?_) rfl (by kernel_rfl) (by kernel_rfl) (by kernel_rfl) (fun _ _ _ h => h) (Or.inl ⟨by rfl, ?_⟩) (by assumption) ?_
                rotate_left
                · (intro w hSw; (try dsimp only at hSw); go_simp; try (with_reducible rfl))
                try simp only [Act.put, List.setIfInBounds_toArray, List.set_cons_zero, List.set_cons_succ]
                refine wpAnyH_ready (rs := [22]) (by kernel_rfl) (by simp) ?_
                refine cons_list rfl (fun K hK => ?_) AllReadyH.nil
                go_simp
                (go_invoke; go_upon; go_at_call 168; refine (CV.out _ (by repeat (first | assumption | (refine Bl.drew ?_) | (refine Bl.alloc ?_ _) | (refine Bl.set ?_ (by dsimp only; omega) _)))).mono ?_; rintro e wq ⟨A', c', rfl, hown, hpq, hbq⟩; have hsm := hbm.size; have hsq := hbq.size; simp only [World.size_alloc, World.size_drew] at hsm hsq; try (have hltA : w2.heap.size < wm.heap.size := by omega))
                refine hK.out _ _ (HC.out _ (by repeat (first | assumption | (refine Bl.drew ?_) | (refine Bl.alloc ?_ _) | (refine Bl.set ?_ (by dsimp only; omega) _)))) (fun hHeld5 => ?_)
                clear hK K hHeld4
                try simp only [Act.put, List.setIfInBounds_toArray, List.set_cons_zero, List.set_cons_succ]
                refine wpAnyH_ready (rs := [24]) (by kernel_rfl) (by simp) ?_
                refine cons_list rfl (fun K hK => ?_) AllReadyH.nil
                (first | (have kz := new_kept hbq; have kr0 := cell_of_row wq _ 0 _ _ _ kz; have kr1 := cell_of_row wq _ 1 _ _ _ kz; have kr2 := cell_of_row wq _ 2 _ _ _ kz; have kf0 := frozen_of_row wq _ 0 _ _ kz; have kf1 := frozen_of_row wq _ 1 _ _ kz; have kf2 := frozen_of_row wq _ 2 _ _ kz) | (have kz : wq.heap[w2.heap.size]? = some (.cells #[.int .i64 0, .int .i64 0, .slice none 0 0] 48 (0, 0)) := (hbq.block _ (lt_heap (new_kept_d hbm))).trans (new_kept_d hbm); have kr0 := cell_of_row wq _ 0 _ _ _ kz; have kr1 := cell_of_row wq _ 1 _ _ _ kz; have kr2 := cell_of_row wq _ 2 _ _ _ kz; have kf0 := frozen_of_row wq _ 0 _ _ kz; have kf1 := frozen_of_row wq _ 1 _ _ kz; have kf2 := frozen_of_row wq _ 2 _ _ kz) | skip)
                go_simp
                refine hK.out _ _ (HC.out _ (by repeat (first | assumption | (refine Bl.drew ?_) | (refine Bl.alloc ?_ _) | (refine Bl.set ?_ (by dsimp only; omega) _)))) (fun hHeld6 => ?_)
                clear hK K hHeld5
                try simp only [Act.put, List.setIfInBounds_toArray, List.set_cons_zero, List.set_cons_succ]
                refine wpAnyH_done (by kernel_rfl) ?_ _
                clear hHeld6
                go_wp2
                go_meet
                case rel => refine ⟨_, A', c', rfl, ?_, ?_, (by repeat (first | assumption | (refine Bl.drew ?_) | (refine Bl.alloc ?_ _) | (refine Bl.set ?_ (by dsimp only; omega) _)))⟩ <;> first | exact (box_put kz hown hltA (Nat.le_refl _)).1 | exact (box_put kz hown hltA (by omega)).2 | exact (box_new hown (Nat.le_refl _)).1 | exact (box_new hown (by omega)).2 | exact (box_put kz hown (by rw [World.size_alloc]; exact Nat.lt_succ_self _) (Nat.le_refl _)).1 | exact (box_put kz hown (by rw [World.size_alloc]; exact Nat.lt_succ_self _) (by have q1 := hbm.size; rw [World.size_alloc]; (try simp only [World.size_drew] at q1); omega)).2
            ·
              go_simp
              refine hK.out _ _ (HC.out _ (by repeat (first | assumption | (refine Bl.drew ?_) | (refine Bl.alloc ?_ _) | (refine Bl.set ?_ (by dsimp only; omega) _)))) (fun hHeld1 => ?_)
              clear hK K hHeld0
              try simp only [Act.put, List.setIfInBounds_toArray, List.set_cons_zero, List.set_cons_succ]
              refine wpAnyH_ready (rs := [1]) (by kernel_rfl) (by simp) ?_
              refine cons_list rfl (fun K hK => ?_) AllReadyH.nil
              go_simp
              (go_at_call 71; refine (CO.out _ (by repeat (first | assumption | (refine Bl.drew ?_) | (refine Bl.alloc ?_ _) | (refine Bl.set ?_ (by dsimp only; omega) _)))).mono ?_; rintro e wm ⟨rfl, hpm, hbm⟩)
              refine hK.out _ _ (HC.out _ (by repeat (first | assumption | (refine Bl.drew ?_) | (refine Bl.alloc ?_ _) | (refine Bl.set ?_ (by dsimp only; omega) _)))) (fun hHeld2 => ?_)
              clear hK K hHeld1
              try simp only [Act.put, List.setIfInBounds_toArray, List.set_cons_zero, List.set_cons_succ]
              refine wpAnyH_ready (rs := [19]) (by kernel_rfl) (by simp) ?_
              refine cons_list rfl (fun K hK => ?_) AllReadyH.nil
              go_simp
              refine hK.out _ _ (HC.out _ (by repeat (first | assumption | (refine Bl.drew ?_) | (refine Bl.alloc ?_ _) | (refine Bl.set ?_ (by dsimp only; omega) _)))) (fun hHeld3 => ?_)
              clear hK K hHeld2
              try simp only [Act.put, List.setIfInBounds_toArray, List.set_cons_zero, List.set_cons_succ]
              refine wpAnyH_ready (rs := [20]) (by kernel_rfl) (by simp) ?_
              refine cons_list rfl (fun K hK => ?_) AllReadyH.nil
              go_simp
              refine hK.out _ _ (HC.out _ (by repeat (first | assumption | (refine Bl.drew ?_) | (refine Bl.alloc ?_ _) | (refine Bl.set ?_ (by dsimp only; omega) _)))) (fun hHeld4 => ?_)
              clear hK K hHeld3
              try simp only [Act.put, List.setIfInBounds_toArray, List.set_cons_zero, List.set_cons_succ]
              refine take_list (i := 21) (v := ?_) rfl (by kernel_rfl) (by kernel_rfl) (by kernel_rfl) (fun _ _ _ h => h) (Or.inl ⟨by rfl, ?_⟩) (by assumption) ?_
              rotate_left
              · (intro w hSw; (try dsimp only at hSw); go_simp; try (with_reducible rfl))
              try simp only [Act.put, List.setIfInBounds_toArray, List.set_cons_zero, List.set_cons_succ]
              refine wpAnyH_ready (rs := [22]) (by kernel_rfl) (by simp) ?_
              refine cons_list rfl (fun K hK => ?_) AllReadyH.nil
              go_simp
              (go_invoke; go_upon; go_at_call 168; refine (CV.out _ (by repeat (first | assumption | (refine Bl.drew ?_) | (refine Bl.alloc ?_ _) | (refine Bl.set ?_ (by dsimp only; omega) _)))).mono ?_; rintro e wq ⟨A', c', rfl, hown, hpq, hbq⟩; have hsm := hbm.size; have hsq := hbq.size; simp only [World.size_alloc, World.size_drew] at hsm hsq; try (have hltA : w2.heap.size < wm.heap.size := by omega))
              refine hK.out _ _ (HC.out _ (by repeat (first | assumption | (refine Bl.drew ?_) | (refine Bl.alloc ?_ _) | (refine Bl.set ?_ (by dsimp only; omega) _)))) (fun hHeld5 => ?_)
              clear hK K hHeld4
              try simp only [Act.put, List.setIfInBounds_toArray, List.set_cons_zero, List.set_cons_succ]
              refine wpAnyH_ready (rs := [24]) (by kernel_rfl) (by simp) ?_
              refine cons_list rfl (fun K hK => ?_) AllReadyH.nil
              (first | (have kz := new_kept hbq; have kr0 := cell_of_row wq _ 0 _ _ _ kz; have kr1 := cell_of_row wq _ 1 _ _ _ kz; have kr2 := cell_of_row wq _ 2 _ _ _ kz; have kf0 := frozen_of_row wq _ 0 _ _ kz; have kf1 := frozen_of_row wq _ 1 _ _ kz; have kf2 := frozen_of_row wq _ 2 _ _ kz) | (have kz : wq.heap[w2.heap.size]? = some (.cells #[.int .i64 0, .int .i64 0, .slice none 0 0] 48 (0, 0)) := (hbq.block _ (lt_heap (new_kept_d hbm))).trans (new_kept_d hbm); have kr0 := cell_of_row wq _ 0 _ _ _ kz; have kr1 := cell_of_row wq _ 1 _ _ _ kz; have kr2 := cell_of_row wq _ 2 _ _ _ kz; have kf0 := frozen_of_row wq _ 0 _ _ kz; have kf1 := frozen_of_row wq _ 1 _ _ kz; have kf2 := frozen_of_row wq _ 2 _ _ kz) | skip)
              go_simp
              refine hK.out _ _ (HC.out _ (by repeat (first | assumption | (refine Bl.drew ?_) | (refine Bl.alloc ?_ _) | (refine Bl.set ?_ (by dsimp only; omega) _)))) (fun hHeld6 => ?_)
              clear hK K hHeld5
              try simp only [Act.put, List.setIfInBounds_toArray, List.set_cons_zero, List.set_cons_succ]
              refine wpAnyH_done (by kernel_rfl) ?_ _
              clear hHeld6
              go_wp2
              go_meet
              case rel => refine ⟨_, A', c', rfl, ?_, ?_, (by repeat (first | assumption | (refine Bl.drew ?_) | (refine Bl.alloc ?_ _) | (refine Bl.set ?_ (by dsimp only; omega) _)))⟩ <;> first | exact (box_put kz hown hltA (Nat.le_refl _)).1 | exact (box_put kz hown hltA (by omega)).2 | exact (box_new hown (Nat.le_refl _)).1 | exact (box_new hown (by omega)).2 | exact (box_put kz hown (by rw [World.size_alloc]; exact Nat.lt_succ_self _) (Nat.le_refl _)).1 | exact (box_put kz hown (by rw [World.size_alloc]; exact Nat.lt_succ_self _) (by have q1 := hbm.size; rw [World.size_alloc]; (try simp only [World.size_drew] at q1); omega)).2
          case rest =>
          obtain ⟨b, A', c', rfl, hbox, hown, hB⟩ := hcut
          have BC := Lib.hid hB
          have OC := Lib.hid hown
          have kb0 := cell_of_row wc _ 0 _ _ _ hbox
          have kb1 := cell_of_row wc _ 1 _ _ _ hbox
          have kb2 := cell_of_row wc _ 2 _ _ _ hbox
          obtain ⟨s0, s1, s2, s3, s4, s5, s6, s7, s8, s9, -, -, -, -, -⟩ := HC.out _ hB
          have HBX := Lib.hid hbox
          clear hB hown hbox
          go_wp2_with fail
          have hho := HHO.out _ A' c' BC.out OC.out
          unfold netV netVal at hho
          rw [HE.out, HE'.out] at hho
          refine hho.mono ?_
          rintro e w3 ⟨rfl, hB3, hown3, hb3⟩
          obtain ⟨hfz, ⟨r0, r1, r2⟩, ⟨f0, f1, f2⟩⟩ := rt_put (r := rtNone) (A := none) (c := 0) hB3.below (show w.heap.size ≤ w.heap.size + 1 + 1 by omega) (HOUT.out _ hB3) (.int .i64 0) (.int .i64 0) (.slice none 0 0)
          obtain ⟨hfv, -, -⟩ := rt_put (r := rtNone) (A := none) (c := 0) hB3.below (show w.heap.size ≤ w.heap.size + 1 + 1 by omega) (HOUT.out _ hB3) (.int .i64 r.kind) (.int .i64 r.cost) (.slice A' l'.length c')
          have ho3 := ((hown3.far (q := ⟨w.heap.size + 1 + 1, 0, none⟩) (by dsimp only; omega) (.int .i64 r.kind)).far (q := ⟨w.heap.size + 1 + 1, 1, none⟩) (by dsimp only; omega) (.int .i64 r.cost)).far (q := ⟨w.heap.size + 1 + 1, 2, none⟩) (by dsimp only; omega) (.slice A' l'.length c')
          have hb' := box_call HBX.out hb3
          have m0 := cell_of_row w3 _ 0 _ _ _ hb'
          have m1 := cell_of_row w3 _ 1 _ _ _ hb'
          have m2 := cell_of_row w3 _ 2 _ _ _ hb'
          have QV := Lib.hid (fun hq => (HQ.out _ hfv).1 hq A' c' ho3)
          have QZ := Lib.hid (HQ.out _ hfz).2
          clear hho hB3 hown3 hb3 hfz hfv ho3 hb' kb0 kb1 kb2 s0 s1 s2 s3 s4 s5 s6 s7 s8 s9
          cases q with
          | true =>
            go_wp2
            exact bodyPost_ret (v := .agg #[.int .i64 r.kind, .int .i64 r.cost, .slice A' l'.length c']) (by simp [results, Tryz.results74, go_sem, r0, r1, r2]) rfl (QV.out (by first | rfl | trivial))
          | false =>
            go_wp2
            exact bodyPost_ret (v := .agg #[.int .i64 0, .int .i64 0, .slice none 0 0]) (by simp [results, Tryz.results74, go_sem, r0, r1, r2]) rfl (QZ.out (by first | rfl | trivial))
        · have hov : overV p z.cost x.as_ r = ⟨r.kind, r.cost + z.cost, r.path⟩ := by unfold overV; rw [if_neg h2]
          have hpn : r.path = [] ∧ 0 ≤ r.cost ∧ r.cost ≤ 15 := by
            rcases hHolds.some hk with ⟨e, _⟩ | ⟨_, _, a1, a2, a3⟩
            · exact absurd e h2
            · exact ⟨a3, a1, a2⟩
          have CV := Lib.hid (fun (wy : World) (hb : Bl w wy L3) => (show Calls Tryz.prog 173 #[.agg #[], .int .i64 z.cost, .agg #[.string x.name, .int .i64 x.as_], .agg #[.string y.name, .int .i64 y.as_], .agg #[.int .i64 r.kind, .int .i64 r.cost, .slice A r.path.length c]] wy fun e w' => ∃ A' c', e = .returned (.agg #[.int .i64 r.kind, .int .i64 (r.cost + z.cost), .slice A' r.path.length c']) ∧ OwnOr w' wy.heap.size A' c' r.path ∧ Bl w w' L3 ∧ Below wy.heap.size wy w' from
            (vover_any z.cost x y r A c wy (HRB.out wy hb.below) (by omega) (by omega) hpn.1).mono fun e w' ⟨A', c', h1, h2, h3⟩ => ⟨A', c', h1, h2, hb.call h3, h3⟩))
          rw [show protoV p = .iface 118 (.agg #[]) from by unfold protoV; rw [if_neg h2]] at CO
          rw [hov] at HO
          have HQ : Hid (∀ wx, Below w.heap.size w wx → (holdsB p n ⟨r.kind, r.cost + z.cost, r.path⟩ = true → ∀ A' c', OwnOr wx (w.heap.size + 3) A' c' r.path → OrPost (overR p k n r) w (.returned (.agg #[.int .i64 r.kind, .int .i64 (r.cost + z.cost), .slice A' r.path.length c'])) wx) ∧ (holdsB p n ⟨r.kind, r.cost + z.cost, r.path⟩ = false → OrPost (overR p k n r) w (.returned (.agg #[.int .i64 0, .int .i64 0, .slice none 0 0])) wx)) := Lib.hid (fun wx hb => ⟨fun hq A' c' ho => by
              rw [if_pos hq] at HO
              exact HV.out wx hb _ A' c' HO.out (ho.more (by omega)), fun hq => by
              rw [if_neg (by rw [hq]; simp)] at HO
              rw [HO.out]; exact ⟨none, 0, rfl, OwnOr.nil, hb⟩⟩)
          clear HV HO hov
          have HHO := Lib.hid (fun wy A' c' (a : Bl w wy L3) (hr : OwnOr wy (w.heap.size + 3) A' c' r.path) => (holds_any p h n ⟨r.kind, r.cost + z.cost, r.path⟩ A' c' wy (HPB.out wy a.below) hnn (hr.rt _ _)).mono (R' := fun e w' => e = .returned (.bool (holdsB p n ⟨r.kind, r.cost + z.cost, r.path⟩)) ∧ Bl w w' L3 ∧ OwnOr w' (w.heap.size + 3) A' c' r.path ∧ Below wy.heap.size wy w') fun e w' ⟨h1, h2⟩ => ⟨h1, a.call h2, hr.call h2, h2⟩)
          generalize holdsB p n ⟨r.kind, r.cost + z.cost, r.path⟩ = q at *
          unfold rtV at HHO
          simp only at HHO
          generalize hgl : r.cost + z.cost = vc at *
          have hq2 : p.proto = p.proto := rfl
          clear hpn
          clear hk h2 hax hcz hx hy hz x0 x1 y0 y1 z2 en el hL3 GG HZ hgl hq2 hHolds
          go_enter Tryz.func74, Tryz.ntmps74
          go_wp2_with fail
          refine (otherX_any p h k n _ (HPB.out _ BX.out.below) HG.out).mono ?_
          rintro e w1 ⟨rfl, hb1⟩
          rw [HJ.out]
          have B1 := Lib.hid (BX.out.call hb1)
          obtain ⟨s0, s1, s2, s3, s4, s5, s6, s7, s8, s9, -, -, -, -, -⟩ := HC.out _ B1.out
          clear hb1
          go_wp2_with fail
          have hho := holds_any p h j r A c w1 (HPB.out _ B1.out.below) hjn (HRB.out _ B1.out.below)
          unfold netV netVal at hho
          rw [HE.out, HE'.out] at hho
          refine hho.mono ?_
          rintro e w2 ⟨rfl, hb2⟩
          rw [hH]
          have B2 := Lib.hid (B1.out.call hb2)
          clear hb2 hho s0 s1 s2 s3 s4 s5 s6 s7 s8 s9 B1 hH
          go_upto_region 4 with fail
          go_cut [10] (fun s wx => ∃ (b : Nat) (A' : Option Addr) (c' : Nat), s = .pointer (some ⟨b, 0, none⟩) ∧ wx.heap[b]? = some (.cells #[.int .i64 r.kind, .int .i64 vc, .slice A' r.path.length c'] 48 (0, 0)) ∧ OwnOr wx (w.heap.size + 3) A' c' r.path ∧ Bl w wx L3)
          case first =>
            go_wp2_with fail
            have hp0 := B2.out
            have hl30 := HL3.out
            have hs30 : w.heap.size + 3 ≤ w2.heap.size := by have := B2.out.lt (i := 2) (by omega); omega
            refine wp_region_held_drew (S := (fun wy => wy.cell? ⟨w.heap.size, 0, none⟩ = some (.int .i64 p.proto) ∧ wy.cell? ⟨w.heap.size, 1, none⟩ = some (.int .i64 p.cap) ∧ wy.cell? ⟨w.heap.size, 2, none⟩ = some (.int .i64 p.k) ∧ wy.cell? ⟨w.heap.size, 3, none⟩ = some (.slice (some ⟨bn, on, none⟩) p.nodes.length h.cn) ∧ wy.cell? ⟨w.heap.size, 4, none⟩ = some (.slice (some ⟨bl, ol, none⟩) p.links.length h.cl) ∧ wy.cell? ⟨w.heap.size, 5, none⟩ = some (.slice h.ad p.dests.length h.cd) ∧ wy.cell? ⟨w.heap.size, 6, none⟩ = some (.slice h.ac p.checks.length h.cc) ∧ wy.cell? ⟨w.heap.size + 1, 0, none⟩ = some (.int .i64 r.kind) ∧ wy.cell? ⟨w.heap.size + 1, 1, none⟩ = some (.int .i64 r.cost) ∧ wy.cell? ⟨w.heap.size + 1, 2, none⟩ = some (.slice A r.path.length c) ∧ wy.cell? ⟨bn, on + j * 2, none⟩ = some (.string x.name) ∧ wy.cell? ⟨bn, on + j * 2 + 1, none⟩ = some (.int .i64 x.as_) ∧ wy.cell? ⟨bn, on + n * 2, none⟩ = some (.string y.name) ∧ wy.cell? ⟨bn, on + n * 2 + 1, none⟩ = some (.int .i64 y.as_) ∧ wy.cell? ⟨bl, ol + k * 3 + 2, none⟩ = some (.int .i64 z.cost))) (by kernel_rfl) (HC.out _ hp0.drew) (fun hHeld0 => ?_)
            refine take_list (i := 0) (v := ?_) rfl (by kernel_rfl) (by kernel_rfl) (by kernel_rfl) (fun _ _ _ h => h) (Or.inl ⟨by rfl, ?_⟩) (by assumption) ?_
            rotate_left
            · (intro w hSw; (try dsimp only at hSw); go_simp; try (with_reducible rfl))
            try simp only [Act.put, List.setIfInBounds_toArray, List.set_cons_zero, List.set_cons_succ]
            refine take_list (i := 2) (v := ?_) rfl (by kernel_rfl) (by kernel_rfl) (by kernel_rfl) (fun _ _ _ h => h) (Or.inl ⟨by rfl, ?_⟩) (by assumption) ?_
            rotate_left
            · (intro w hSw; (try dsimp only at hSw); go_simp; try (with_reducible rfl))
            try simp only [Act.put, List.setIfInBounds_toArray, List.set_cons_zero, List.set_cons_succ]
            refine take_list (i := 3) (v := ?_) rfl (by kernel_rfl) (by kernel_rfl) (by kernel_rfl) (fun _ _ _ h => h) (Or.inl ⟨by rfl, ?_⟩) (by assumption) ?_
            rotate_left
            · (intro w hSw; (try dsimp only at hSw); go_simp; try (with_reducible rfl))
            try simp only [Act.put, List.setIfInBounds_toArray, List.set_cons_zero, List.set_cons_succ]
            refine take_list (i := 4) (v := ?_) rfl (by kernel_rfl) (by kernel_rfl) (by kernel_rfl) (fun _ _ _ h => h) (Or.inl ⟨by rfl, ?_⟩) (by assumption) ?_
            rotate_left
            · (intro w hSw; (try dsimp only at hSw); go_simp; try (with_reducible rfl))
            try simp only [Act.put, List.setIfInBounds_toArray, List.set_cons_zero, List.set_cons_succ]
            refine take_list (i := 5) (v := ?_) rfl (by kernel_rfl) (by kernel_rfl) (by kernel_rfl) (fun _ _ _ h => h) (Or.inl ⟨by rfl, ?_⟩) (by assumption) ?_
            rotate_left
            · (intro w hSw; (try dsimp only at hSw); go_simp; try (with_reducible rfl))
            try simp only [Act.put, List.setIfInBounds_toArray, List.set_cons_zero, List.set_cons_succ]
            refine take_list (i := 6) (v := ?_) rfl (by kernel_rfl) (by kernel_rfl) (by kernel_rfl) (fun _ _ _ h => h) (Or.inl ⟨by rfl, ?_⟩) (by assumption) ?_
            rotate_left
            · (intro w hSw; (try dsimp only at hSw); go_simp; try (with_reducible rfl))
            try simp only [Act.put, List.setIfInBounds_toArray, List.set_cons_zero, List.set_cons_succ]
            refine take_list (i := 7) (v := ?_) rfl (by kernel_rfl) (by kernel_rfl) (by kernel_rfl) (fun _ _ _ h => h) (Or.inl ⟨by rfl, ?_⟩) (by assumption) ?_
            rotate_left
            · (intro w hSw; (try dsimp only at hSw); go_simp; try (with_reducible rfl))
            try simp only [Act.put, List.setIfInBounds_toArray, List.set_cons_zero, List.set_cons_succ]
            refine take_list (i := 8) (v := ?_) rfl (by kernel_rfl) (by kernel_rfl) (by kernel_rfl) (fun _ _ _ h => h) (Or.inl ⟨by rfl, ?_⟩) (by assumption) ?_
            rotate_left
            · (intro w hSw; (try dsimp only at hSw); go_simp; try (with_reducible rfl))
            try simp only [Act.put, List.setIfInBounds_toArray, List.set_cons_zero, List.set_cons_succ]
            refine take_list (i := 9) (v := ?_) rfl (by kernel_rfl) (by kernel_rfl) (by kernel_rfl) (fun _ _ _ h => h) (Or.inl ⟨by rfl, ?_⟩) (by assumption) ?_
            rotate_left
            · (intro w hSw; (try dsimp only at hSw); go_simp; try (with_reducible rfl))
            try simp only [Act.put, List.setIfInBounds_toArray, List.set_cons_zero, List.set_cons_succ]
            refine take_list (i := 10) (v := ?_) rfl (by kernel_rfl) (by kernel_rfl) (by kernel_rfl) (fun _ _ _ h => h) (Or.inl ⟨by rfl, ?_⟩) (by assumption) ?_
            rotate_left
            · (intro w hSw; (try dsimp only at hSw); go_simp; try (with_reducible rfl))
            try simp only [Act.put, List.setIfInBounds_toArray, List.set_cons_zero, List.set_cons_succ]
            refine take_list (i := 11) (v := ?_) rfl (by kernel_rfl) (by kernel_rfl) (by kernel_rfl) (fun _ _ _ h => h) (Or.inl ⟨by rfl, ?_⟩) (by assumption) ?_
            rotate_left
            · (intro w hSw; (try dsimp only at hSw); go_simp; try (with_reducible rfl))
            try simp only [Act.put, List.setIfInBounds_toArray, List.set_cons_zero, List.set_cons_succ]
            refine take_list (i := 12) (v := ?_) rfl (by kernel_rfl) (by kernel_rfl) (by kernel_rfl) (fun _ _ _ h => h) (Or.inl ⟨by rfl, ?_⟩) (by assumption) ?_
            rotate_left
            · (intro w hSw; (try dsimp only at hSw); go_simp; try (with_reducible rfl))
            try simp only [Act.put, List.setIfInBounds_toArray, List.set_cons_zero, List.set_cons_succ]
            refine take_list (i := 13) (v := ?_) rfl (by kernel_rfl) (by kernel_rfl) (by kernel_rfl) (fun _ _ _ h => h) (Or.inl ⟨by rfl, ?_⟩) (by assumption) ?_
            rotate_left
            · (intro w hSw; (try dsimp only at hSw); go_simp; try (with_reducible rfl))
            try simp only [Act.put, List.setIfInBounds_toArray, List.set_cons_zero, List.set_cons_succ]
            refine take_list (i := 14) (v := ?_) rfl (by kernel_rfl) (by kernel_rfl) (by kernel_rfl) (fun _ _ _ h => h) (Or.inl ⟨by rfl, ?_⟩) (by assumption) ?_
            rotate_left
            · (intro w hSw; (try dsimp only at hSw); go_simp; try (with_reducible rfl))
            try simp only [Act.put, List.setIfInBounds_toArray, List.set_cons_zero, List.set_cons_succ]
            refine take_list (i := 15) (v := ?_) rfl (by kernel_rfl) (by kernel_rfl) (by kernel_rfl) (fun _ _ _ h => h) (Or.inl ⟨by rfl, ?_⟩) (by assumption) ?_
            rotate_left
            · (intro w hSw; (try dsimp only at hSw); go_simp; try (with_reducible rfl))
            try simp only [Act.put, List.setIfInBounds_toArray, List.set_cons_zero, List.set_cons_succ]
            refine take_list (i := 16) (v := ?_) rfl (by kernel_rfl) (by kernel_rfl) (by kernel_rfl) (fun _ _ _ h => h) (Or.inl ⟨by rfl, ?_⟩) (by assumption) ?_
            rotate_left
            · (intro w hSw; (try dsimp only at hSw); go_simp; try (with_reducible rfl))
            try simp only [Act.put, List.setIfInBounds_toArray, List.set_cons_zero, List.set_cons_succ]
            refine take_list (i := 17) (v := ?_) rfl (by kernel_rfl) (by kernel_rfl) (by kernel_rfl) (fun _ _ _ h => h) (Or.inl ⟨by rfl, ?_⟩) (by assumption) ?_
            rotate_left
            · (intro w hSw; (try dsimp only at hSw); go_simp; try (with_reducible rfl))
            try simp only [Act.put, List.setIfInBounds_toArray, List.set_cons_zero, List.set_cons_succ]
            refine take_list (i := 18) (v := ?_) rfl (by kernel_rfl) (by kernel_rfl) (by kernel_rfl) (fun _ _ _ h => h) (Or.inl ⟨by rfl, ?_⟩) (by assumption) ?_
            rotate_left
            · (intro w hSw; (try dsimp only at hSw); go_simp; try (with_reducible rfl))
            try simp only [Act.put, List.setIfInBounds_toArray, List.set_cons_zero, List.set_cons_succ]
            refine wpAnyH_ready (rs := [1, 23]) (by kernel_rfl) (by simp) ?_
            refine cons_list rfl (fun K hK => ?_) (cons_list rfl (fun K hK => ?_) AllReadyH.nil)
            ·
              go_simp
              (go_at_call 71; refine (CO.out _ (by repeat (first | assumption | (refine Bl.drew ?_) | (refine Bl.alloc ?_ _) | (refine Bl.set ?_ (by dsimp only; omega) _)))).mono ?_; rintro e wm ⟨rfl, hpm, hbm⟩)
              refine hK.out _ _ (HC.out _ (by repeat (first | assumption | (refine Bl.drew ?_) | (refine Bl.alloc ?_ _) | (refine Bl.set ?_ (by dsimp only; omega) _)))) (fun hHeld1 => ?_)
              clear hK K hHeld0
              try simp only [Act.put, List.setIfInBounds_toArray, List.set_cons_zero, List.set_cons_succ]
              refine wpAnyH_ready (rs := [19, 23]) (by kernel_rfl) (by simp) ?_
              refine cons_list rfl (fun K hK => ?_) (cons_list rfl (fun K hK => ?_) AllReadyH.nil)
              ·
                go_simp
                refine hK.out _ _ (HC.out _ (by repeat (first | assumption | (refine Bl.drew ?_) | (refine Bl.alloc ?_ _) | (refine Bl.set ?_ (by dsimp only; omega) _)))) (fun hHeld2 => ?_)
                clear hK K hHeld1
                try simp only [Act.put, List.setIfInBounds_toArray, List.set_cons_zero, List.set_cons_succ]
                refine wpAnyH_ready (rs := [20, 23]) (by kernel_rfl) (by simp) ?_
                refine cons_list rfl (fun K hK => ?_) (cons_list rfl (fun K hK => ?_) AllReadyH.nil)
                ·
                  go_simp
                  refine hK.out _ _ (HC.out _ (by repeat (first | assumption | (refine Bl.drew ?_) | (refine Bl.alloc ?_ _) | (refine Bl.set ?_ (by dsimp only; omega) _)))) (fun hHeld3 => ?_)
                  clear hK K hHeld2
                  try simp only [Act.put, List.setIfInBounds_toArray, List.set_cons_zero, List.set_cons_succ]
                  refine take_list (i := 21) (v := ?_) rfl (by kernel_rfl) (by kernel_rfl) (by kernel_rfl) (fun _ _ _ h => h) (Or.inl ⟨by rfl, ?_⟩) (by assumption) ?_
                  rotate_left
                  · (intro w hSw; (try dsimp only at hSw); go_simp; try (with_reducible rfl))
                  try simp only [Act.put, List.setIfInBounds_toArray, List.set_cons_zero, List.set_cons_succ]
                  refine wpAnyH_ready (rs := [22, 23]) (by kernel_rfl) (by simp) ?_
                  refine cons_list rfl (fun K hK => ?_) (cons_list rfl (fun K hK => ?_) AllReadyH.nil)
                  ·
                    go_simp
                    (go_invoke; go_upon; go_at_call 173; refine (CV.out _ (by repeat (first | assumption | (refine Bl.drew ?_) | (refine Bl.alloc ?_ _) | (refine Bl.set ?_ (by dsimp only; omega) _)))).mono ?_; rintro e wq ⟨A', c', rfl, hown, hpq, hbq⟩; have hsm := hbm.size; have hsq := hbq.size; simp only [World.size_alloc, World.size_drew] at hsm hsq; try (have hltA : w2.heap.size < wm.heap.size := by omega))
                    refine hK.out _ _ (HC.out _ (by repeat (first | assumption | (refine Bl.drew ?_) | (refine Bl.alloc ?_ _) | (refine Bl.set ?_ (by dsimp only; omega) _)))) (fun hHeld4 => ?_)
                    clear hK K hHeld3
                    try simp only [Act.put, List.setIfInBounds_toArray, List.set_cons_zero, List.set_cons_succ]
                    refine wpAnyH_ready (rs := [23]) (by kernel_rfl) (by simp) ?_
                    refine cons_list rfl (fun K hK => ?_) AllReadyH.nil
                    go_simp
                    refine hK.out _ _ (HC.out _ (by repeat (first | assumption | (refine Bl.drew ?_) | (refine Bl.alloc ?_ _) | (refine Bl.set ?_ (by dsimp only; omega) _)))) (fun hHeld5 => ?_)
                    clear hK K hHeld4
                    try simp only [Act.put, List.setIfInBounds_toArray, List.set_cons_zero, List.set_cons_succ]
                    refine wpAnyH_ready (rs := [24]) (by kernel_rfl) (by simp) ?_
                    refine cons_list rfl (fun K hK => ?_) AllReadyH.nil
                    (first | (have kz := new_kept hbq; have kr0 := cell_of_row wq _ 0 _ _ _ kz; have kr1 := cell_of_row wq _ 1 _ _ _ kz; have kr2 := cell_of_row wq _ 2 _ _ _ kz; have kf0 := frozen_of_row wq _ 0 _ _ kz; have kf1 := frozen_of_row wq _ 1 _ _ kz; have kf2 := frozen_of_row wq _ 2 _ _ kz) | (have kz : wq.heap[w2.heap.size]? = some (.cells #[.int .i64 0, .int .i64 0, .slice none 0 0] 48 (0, 0)) := (hbq.block _ (lt_heap (new_kept_d hbm))).trans (new_kept_d hbm); have kr0 := cell_of_row wq _ 0 _ _ _ kz; have kr1 := cell_of_row wq _ 1 _ _ _ kz; have kr2 := cell_of_row wq _ 2 _ _ _ kz; have kf0 := frozen_of_row wq _ 0 _ _ kz; have kf1 := frozen_of_row wq _ 1 _ _ kz; have kf2 := frozen_of_row wq _ 2 _ _ kz) | skip)
                    go_simp
                    refine hK.out _ _ (HC.out _ (by repeat (first | assumption | (refine Bl.drew ?_) | (refine Bl.alloc ?_ _) | (refine Bl.set ?_ (by dsimp only; omega) _)))) (fun hHeld6 => ?_)
                    clear hK K hHeld5
                    try simp only [Act.put, List.setIfInBounds_toArray, List.set_cons_zero, List.set_cons_succ]
                    refine wpAnyH_done (by kernel_rfl) ?_ _
                    clear hHeld6
                    go_wp2
                    go_meet
                    case rel => refine ⟨_, A', c', rfl, ?_, ?_, (by repeat (first | assumption | (refine Bl.drew ?_) | (refine Bl.alloc ?_ _) | (refine Bl.set ?_ (by dsimp only; omega) _)))⟩ <;> first | exact (box_put kz hown hltA (Nat.le_refl _)).1 | exact (box_put kz hown hltA (by omega)).2 | exact (box_new hown (Nat.le_refl _)).1 | exact (box_new hown (by omega)).2 | exact (box_put kz hown (by rw [World.size_alloc]; exact Nat.lt_succ_self _) (Nat.le_refl _)).1 | exact (box_put kz hown (by rw [World.size_alloc]; exact Nat.lt_succ_self _) (by have q1 := hbm.size; rw [World.size_alloc]; (try simp only [World.size_drew] at q1); omega)).2
                  ·
                    go_simp
                    refine hK.out _ _ (HC.out _ (by repeat (first | assumption | (refine Bl.drew ?_) | (refine Bl.alloc ?_ _) | (refine Bl.set ?_ (by dsimp only; omega) _)))) (fun hHeld4 => ?_)
                    clear hK K hHeld3
                    try simp only [Act.put, List.setIfInBounds_toArray, List.set_cons_zero, List.set_cons_succ]
                    refine wpAnyH_ready (rs := [22]) (by kernel_rfl) (by simp) ?_
                    refine cons_list rfl (fun K hK => ?_) AllReadyH.nil
                    go_simp
                    (go_invoke; go_upon; go_at_call 173; refine (CV.out _ (by repeat (first | assumption | (refine Bl.drew ?_) | (refine Bl.alloc ?_ _) | (refine Bl.set ?_ (by dsimp only; omega) _)))).mono ?_; rintro e wq ⟨A', c', rfl, hown, hpq, hbq⟩; have hsm := hbm.size; have hsq := hbq.size; simp only [World.size_alloc, World.size_drew] at hsm hsq; try (have hltA : w2.heap.size < wm.heap.size := by omega))
                    refine hK.out _ _ (HC.out _ (by repeat (first | assumption | (refine Bl.drew ?_) | (refine Bl.alloc ?_ _) | (refine Bl.set ?_ (by dsimp only; omega) _)))) (fun hHeld5 => ?_)
                    clear hK K hHeld4
                    try simp only [Act.put, List.setIfInBounds_toArray, List.set_cons_zero, List.set_cons_succ]
                    refine wpAnyH_ready (rs := [24]) (by kernel_rfl) (by simp) ?_
                    refine cons_list rfl (fun K hK => ?_) AllReadyH.nil
                    (first | (have kz := new_kept hbq; have kr0 := cell_of_row wq _ 0 _ _ _ kz; have kr1 := cell_of_row wq _ 1 _ _ _ kz; have kr2 := cell_of_row wq _ 2 _ _ _ kz; have kf0 := frozen_of_row wq _ 0 _ _ kz; have kf1 := frozen_of_row wq _ 1 _ _ kz; have kf2 := frozen_of_row wq _ 2 _ _ kz) | (have kz : wq.heap[w2.heap.size]? = some (.cells #[.int .i64 0, .int .i64 0, .slice none 0 0] 48 (0, 0)) := (hbq.block _ (lt_heap (new_kept_d hbm))).trans (new_kept_d hbm); have kr0 := cell_of_row wq _ 0 _ _ _ kz; have kr1 := cell_of_row wq _ 1 _ _ _ kz; have kr2 := cell_of_row wq _ 2 _ _ _ kz; have kf0 := frozen_of_row wq _ 0 _ _ kz; have kf1 := frozen_of_row wq _ 1 _ _ kz; have kf2 := frozen_of_row wq _ 2 _ _ kz) | skip)
                    go_simp
                    refine hK.out _ _ (HC.out _ (by repeat (first | assumption | (refine Bl.drew ?_) | (refine Bl.alloc ?_ _) | (refine Bl.set ?_ (by dsimp only; omega) _)))) (fun hHeld6 => ?_)
                    clear hK K hHeld5
                    try simp only [Act.put, List.setIfInBounds_toArray, List.set_cons_zero, List.set_cons_succ]
                    refine wpAnyH_done (by kernel_rfl) ?_ _
                    clear hHeld6
                    go_wp2
                    go_meet
                    case rel => refine ⟨_, A', c', rfl, ?_, ?_, (by repeat (first | assumption | (refine Bl.drew ?_) | (refine Bl.alloc ?_ _) | (refine Bl.set ?_ (by dsimp only; omega) _)))⟩ <;> first | exact (box_put kz hown hltA (Nat.le_refl _)).1 | exact (box_put kz hown hltA (by omega)).2 | exact (box_new hown (Nat.le_refl _)).1 | exact (box_new hown (by omega)).2 | exact (box_put kz hown (by rw [World.size_alloc]; exact Nat.lt_succ_self _) (Nat.le_refl _)).1 | exact (box_put kz hown (by rw [World.size_alloc]; exact Nat.lt_succ_self _) (by have q1 := hbm.size; rw [World.size_alloc]; (try simp only [World.size_drew] at q1); omega)).2
                ·
                  go_simp
                  refine hK.out _ _ (HC.out _ (by repeat (first | assumption | (refine Bl.drew ?_) | (refine Bl.alloc ?_ _) | (refine Bl.set ?_ (by dsimp only; omega) _)))) (fun hHeld3 => ?_)
                  clear hK K hHeld2
                  try simp only [Act.put, List.setIfInBounds_toArray, List.set_cons_zero, List.set_cons_succ]
                  refine wpAnyH_ready (rs := [20]) (by kernel_rfl) (by simp) ?_
                  refine cons_list rfl (fun K hK => ?_) AllReadyH.nil
                  go_simp
                  refine hK.out _ _ (HC.out _ (by repeat (first | assumption | (refine Bl.drew ?_) | (refine Bl.alloc ?_ _) | (refine Bl.set ?_ (by dsimp only; omega) _)))) (fun hHeld4 => ?_)
                  clear hK K hHeld3
                  try simp only [Act.put, List.setIfInBounds_toArray, List.set_cons_zero, List.set_cons_succ]
                  refine take_list (i := 21) (v := ?_) rfl (by kernel_rfl) (by kernel_rfl) (by kernel_rfl) (fun _ _ _ h => h) (Or.inl ⟨by rfl, ?_⟩) (by assumption) ?_
                  rotate_left
                  · (intro w hSw; (try dsimp only at hSw); go_simp; try (with_reducible rfl))
                  try simp only [Act.put, List.setIfInBounds_toArray, List.set_cons_zero, List.set_cons_succ]
                  refine wpAnyH_ready (rs := [22]) (by kernel_rfl) (by simp) ?_
                  refine cons_list rfl (fun K hK => ?_) AllReadyH.nil
                  go_simp
                  (go_invoke; go_upon; go_at_call 173; refine (CV.out _ (by repeat (first | assumption | (refine Bl.drew ?_) | (refine Bl.alloc ?_ _) | (refine Bl.set ?_ (by dsimp only; omega) _)))).mono ?_; rintro e wq ⟨A', c', rfl, hown, hpq, hbq⟩; have hsm := hbm.size; have hsq := hbq.size; simp only [World.size_alloc, World.size_drew] at hsm hsq; try (have hltA : w2.heap.size < wm.heap.size := by omega))
                  refine hK.out _ _ (HC.out _ (by repeat (first | assumption | (refine Bl.drew ?_) | (refine Bl.alloc ?_ _) | (refine Bl.set ?_ (by dsimp only; omega) _)))) (fun hHeld5 => ?_)
                  clear hK K hHeld4
                  try simp only [Act.put, List.setIfInBounds_toArray, List.set_cons_zero, List.set_cons_succ]
                  refine wpAnyH_ready (rs := [24]) (by kernel_rfl) (by simp) ?_
                  refine cons_list rfl (fun K hK => ?_) AllReadyH.nil
                  (first | (have kz := new_kept hbq; have kr0 := cell_of_row wq _ 0 _ _ _ kz; have kr1 := cell_of_row wq _ 1 _ _ _ kz; have kr2 := cell_of_row wq _ 2 _ _ _ kz; have kf0 := frozen_of_row wq _ 0 _ _ kz; have kf1 := frozen_of_row wq _ 1 _ _ kz; have kf2 := frozen_of_row wq _ 2 _ _ kz) | (have kz : wq.heap[w2.heap.size]? = some (.cells #[.int .i64 0, .int .i64 0, .slice none 0 0] 48 (0, 0)) := (hbq.block _ (lt_heap (new_kept_d hbm))).trans (new_kept_d hbm); have kr0 := cell_of_row wq _ 0 _ _ _ kz; have kr1 := cell_of_row wq _ 1 _ _ _ kz; have kr2 := cell_of_row wq _ 2 _ _ _ kz; have kf0 := frozen_of_row wq _ 0 _ _ kz; have kf1 := frozen_of_row wq _ 1 _ _ kz; have kf2 := frozen_of_row wq _ 2 _ _ kz) | skip)
                  go_simp
                  refine hK.out _ _ (HC.out _ (by repeat (first | assumption | (refine Bl.drew ?_) | (refine Bl.alloc ?_ _) | (refine Bl.set ?_ (by dsimp only; omega) _)))) (fun hHeld6 => ?_)
                  clear hK K hHeld5
                  try simp only [Act.put, List.setIfInBounds_toArray, List.set_cons_zero, List.set_cons_succ]
                  refine wpAnyH_done (by kernel_rfl) ?_ _
                  clear hHeld6
                  go_wp2
                  go_meet
                  case rel => refine ⟨_, A', c', rfl, ?_, ?_, (by repeat (first | assumption | (refine Bl.drew ?_) | (refine Bl.alloc ?_ _) | (refine Bl.set ?_ (by dsimp only; omega) _)))⟩ <;> first | exact (box_put kz hown hltA (Nat.le_refl _)).1 | exact (box_put kz hown hltA (by omega)).2 | exact (box_new hown (Nat.le_refl _)).1 | exact (box_new hown (by omega)).2 | exact (box_put kz hown (by rw [World.size_alloc]; exact Nat.lt_succ_self _) (Nat.le_refl _)).1 | exact (box_put kz hown (by rw [World.size_alloc]; exact Nat.lt_succ_self _) (by have q1 := hbm.size; rw [World.size_alloc]; (try simp only [World.size_drew] at q1); omega)).2
              ·
                go_simp
                refine hK.out _ _ (HC.out _ (by repeat (first | assumption | (refine Bl.drew ?_) | (refine Bl.alloc ?_ _) | (refine Bl.set ?_ (by dsimp only; omega) _)))) (fun hHeld2 => ?_)
                clear hK K hHeld1
                try simp only [Act.put, List.setIfInBounds_toArray, List.set_cons_zero, List.set_cons_succ]
                refine wpAnyH_ready (rs := [19]) (by kernel_rfl) (by simp) ?_
                refine cons_list rfl (fun K hK => ?_) AllReadyH.nil
                go_simp
                refine hK.out _ _ (HC.out _ (by repeat (first | assumption | (refine Bl.drew ?_) | (refine Bl.alloc ?_ _) | (refine Bl.set ?_ (by dsimp only; omega) _)))) (fun hHeld3 => ?_)
                clear hK K hHeld2
                try simp only [Act.put, List.setIfInBounds_toArray, List.set_cons_zero, List.set_cons_succ]
                refine wpAnyH_ready (rs := [20]) (by kernel_rfl) (by simp) ?_
                refine cons_list rfl (fun K hK => ?_) AllReadyH.nil
                go_simp
                refine hK.out _ _ (HC.out _ (by repeat (first | assumption | (refine Bl.drew ?_) | (refine Bl.alloc ?_ _) | (refine Bl.set ?_ (by dsimp only; omega) _)))) (fun hHeld4 => ?_)
                clear hK K hHeld3
                try simp only [Act.put, List.setIfInBounds_toArray, List.set_cons_zero, List.set_cons_succ]
                refine take_list (i := 21) (v := ?_) rfl (by kernel_rfl) (by kernel_rfl) (by kernel_rfl) (fun _ _ _ h => h) (Or.inl ⟨by rfl, ?_⟩) (by assumption) ?_
                rotate_left
                · (intro w hSw; (try dsimp only at hSw); go_simp; try (with_reducible rfl))
                try simp only [Act.put, List.setIfInBounds_toArray, List.set_cons_zero, List.set_cons_succ]
                refine wpAnyH_ready (rs := [22]) (by kernel_rfl) (by simp) ?_
                refine cons_list rfl (fun K hK => ?_) AllReadyH.nil
                go_simp
                (go_invoke; go_upon; go_at_call 173; refine (CV.out _ (by repeat (first | assumption | (refine Bl.drew ?_) | (refine Bl.alloc ?_ _) | (refine Bl.set ?_ (by dsimp only; omega) _)))).mono ?_; rintro e wq ⟨A', c', rfl, hown, hpq, hbq⟩; have hsm := hbm.size; have hsq := hbq.size; simp only [World.size_alloc, World.size_drew] at hsm hsq; try (have hltA : w2.heap.size < wm.heap.size := by omega))
                refine hK.out _ _ (HC.out _ (by repeat (first | assumption | (refine Bl.drew ?_) | (refine Bl.alloc ?_ _) | (refine Bl.set ?_ (by dsimp only; omega) _)))) (fun hHeld5 => ?_)
                clear hK K hHeld4
                try simp only [Act.put, List.setIfInBounds_toArray, List.set_cons_zero, List.set_cons_succ]
                refine wpAnyH_ready (rs := [24]) (by kernel_rfl) (by simp) ?_
                refine cons_list rfl (fun K hK => ?_) AllReadyH.nil
                (first | (have kz := new_kept hbq; have kr0 := cell_of_row wq _ 0 _ _ _ kz; have kr1 := cell_of_row wq _ 1 _ _ _ kz; have kr2 := cell_of_row wq _ 2 _ _ _ kz; have kf0 := frozen_of_row wq _ 0 _ _ kz; have kf1 := frozen_of_row wq _ 1 _ _ kz; have kf2 := frozen_of_row wq _ 2 _ _ kz) | (have kz : wq.heap[w2.heap.size]? = some (.cells #[.int .i64 0, .int .i64 0, .slice none 0 0] 48 (0, 0)) := (hbq.block _ (lt_heap (new_kept_d hbm))).trans (new_kept_d hbm); have kr0 := cell_of_row wq _ 0 _ _ _ kz; have kr1 := cell_of_row wq _ 1 _ _ _ kz; have kr2 := cell_of_row wq _ 2 _ _ _ kz; have kf0 := frozen_of_row wq _ 0 _ _ kz; have kf1 := frozen_of_row wq _ 1 _ _ kz; have kf2 := frozen_of_row wq _ 2 _ _ kz) | skip)
                go_simp
                refine hK.out _ _ (HC.out _ (by repeat (first | assumption | (refine Bl.drew ?_) | (refine Bl.alloc ?_ _) | (refine Bl.set ?_ (by dsimp only; omega) _)))) (fun hHeld6 => ?_)
                clear hK K hHeld5
                try simp only [Act.put, List.setIfInBounds_toArray, List.set_cons_zero, List.set_cons_succ]
                refine wpAnyH_done (by kernel_rfl) ?_ _
                clear hHeld6
                go_wp2
                go_meet
                case rel => refine ⟨_, A', c', rfl, ?_, ?_, (by repeat (first | assumption | (refine Bl.drew ?_) | (refine Bl.alloc ?_ _) | (refine Bl.set ?_ (by dsimp only; omega) _)))⟩ <;> first | exact (box_put kz hown hltA (Nat.le_refl _)).1 | exact (box_put kz hown hltA (by omega)).2 | exact (box_new hown (Nat.le_refl _)).1 | exact (box_new hown (by omega)).2 | exact (box_put kz hown (by rw [World.size_alloc]; exact Nat.lt_succ_self _) (Nat.le_refl _)).1 | exact (box_put kz hown (by rw [World.size_alloc]; exact Nat.lt_succ_self _) (by have q1 := hbm.size; rw [World.size_alloc]; (try simp only [World.size_drew] at q1); omega)).2
            ·
              go_simp
              refine hK.out _ _ (HC.out _ (by repeat (first | assumption | (refine Bl.drew ?_) | (refine Bl.alloc ?_ _) | (refine Bl.set ?_ (by dsimp only; omega) _)))) (fun hHeld1 => ?_)
              clear hK K hHeld0
              try simp only [Act.put, List.setIfInBounds_toArray, List.set_cons_zero, List.set_cons_succ]
              refine wpAnyH_ready (rs := [1]) (by kernel_rfl) (by simp) ?_
              refine cons_list rfl (fun K hK => ?_) AllReadyH.nil
              go_simp
              (go_at_call 71; refine (CO.out _ (by repeat (first | assumption | (refine Bl.drew ?_) | (refine Bl.alloc ?_ _) | (refine Bl.set ?_ (by dsimp only; omega) _)))).mono ?_; rintro e wm ⟨rfl, hpm, hbm⟩)
              refine hK.out _ _ (HC.out _ (by repeat (first | assumption | (refine Bl.drew ?_) | (refine Bl.alloc ?_ _) | (refine Bl.set ?_ (by dsimp only; omega) _)))) (fun hHeld2 => ?_)
              clear hK K hHeld1
              try simp only [Act.put, List.setIfInBounds_toArray, List.set_cons_zero, List.set_cons_succ]
              refine wpAnyH_ready (rs := [19]) (by kernel_rfl) (by simp) ?_
              refine cons_list rfl (fun K hK => ?_) AllReadyH.nil
              go_simp
              refine hK.out _ _ (HC.out _ (by repeat (first | assumption | (refine Bl.drew ?_) | (refine Bl.alloc ?_ _) | (refine Bl.set ?_ (by dsimp only; omega) _)))) (fun hHeld3 => ?_)
              clear hK K hHeld2
              try simp only [Act.put, List.setIfInBounds_toArray, List.set_cons_zero, List.set_cons_succ]
              refine wpAnyH_ready (rs := [20]) (by kernel_rfl) (by simp) ?_
              refine cons_list rfl (fun K hK => ?_) AllReadyH.nil
              go_simp
              refine hK.out _ _ (HC.out _ (by repeat (first | assumption | (refine Bl.drew ?_) | (refine Bl.alloc ?_ _) | (refine Bl.set ?_ (by dsimp only; omega) _)))) (fun hHeld4 => ?_)
              clear hK K hHeld3
              try simp only [Act.put, List.setIfInBounds_toArray, List.set_cons_zero, List.set_cons_succ]
              refine take_list (i := 21) (v := ?_) rfl (by kernel_rfl) (by kernel_rfl) (by kernel_rfl) (fun _ _ _ h => h) (Or.inl ⟨by rfl, ?_⟩) (by assumption) ?_
              rotate_left
              · (intro w hSw; (try dsimp only at hSw); go_simp; try (with_reducible rfl))
              try simp only [Act.put, List.setIfInBounds_toArray, List.set_cons_zero, List.set_cons_succ]
              refine wpAnyH_ready (rs := [22]) (by kernel_rfl) (by simp) ?_
              refine cons_list rfl (fun K hK => ?_) AllReadyH.nil
              go_simp
              (go_invoke; go_upon; go_at_call 173; refine (CV.out _ (by repeat (first | assumption | (refine Bl.drew ?_) | (refine Bl.alloc ?_ _) | (refine Bl.set ?_ (by dsimp only; omega) _)))).mono ?_; rintro e wq ⟨A', c', rfl, hown, hpq, hbq⟩; have hsm := hbm.size; have hsq := hbq.size; simp only [World.size_alloc, World.size_drew] at hsm hsq; try (have hltA : w2.heap.size < wm.heap.size := by omega))
              refine hK.out _ _ (HC.out _ (by repeat (first | assumption | (refine Bl.drew ?_) | (refine Bl.alloc ?_ _) | (refine Bl.set ?_ (by dsimp only; omega) _)))) (fun hHeld5 => ?_)
              clear hK K hHeld4
              try simp only [Act.put, List.setIfInBounds_toArray, List.set_cons_zero, List.set_cons_succ]
              refine wpAnyH_ready (rs := [24]) (by kernel_rfl) (by simp) ?_
              refine cons_list rfl (fun K hK => ?_) AllReadyH.nil
              (first | (have kz := new_kept hbq; have kr0 := cell_of_row wq _ 0 _ _ _ kz; have kr1 := cell_of_row wq _ 1 _ _ _ kz; have kr2 := cell_of_row wq _ 2 _ _ _ kz; have kf0 := frozen_of_row wq _ 0 _ _ kz; have kf1 := frozen_of_row wq _ 1 _ _ kz; have kf2 := frozen_of_row wq _ 2 _ _ kz) | (have kz : wq.heap[w2.heap.size]? = some (.cells #[.int .i64 0, .int .i64 0, .slice none 0 0] 48 (0, 0)) := (hbq.block _ (lt_heap (new_kept_d hbm))).trans (new_kept_d hbm); have kr0 := cell_of_row wq _ 0 _ _ _ kz; have kr1 := cell_of_row wq _ 1 _ _ _ kz; have kr2 := cell_of_row wq _ 2 _ _ _ kz; have kf0 := frozen_of_row wq _ 0 _ _ kz; have kf1 := frozen_of_row wq _ 1 _ _ kz; have kf2 := frozen_of_row wq _ 2 _ _ kz) | skip)
              go_simp
              refine hK.out _ _ (HC.out _ (by repeat (first | assumption | (refine Bl.drew ?_) | (refine Bl.alloc ?_ _) | (refine Bl.set ?_ (by dsimp only; omega) _)))) (fun hHeld6 => ?_)
              clear hK K hHeld5
              try simp only [Act.put, List.setIfInBounds_toArray, List.set_cons_zero, List.set_cons_succ]
              refine wpAnyH_done (by kernel_rfl) ?_ _
              clear hHeld6
              go_wp2
              go_meet
              case rel => refine ⟨_, A', c', rfl, ?_, ?_, (by repeat (first | assumption | (refine Bl.drew ?_) | (refine Bl.alloc ?_ _) | (refine Bl.set ?_ (by dsimp only; omega) _)))⟩ <;> first | exact (box_put kz hown hltA (Nat.le_refl _)).1 | exact (box_put kz hown hltA (by omega)).2 | exact (box_new hown (Nat.le_refl _)).1 | exact (box_new hown (by omega)).2 | exact (box_put kz hown (by rw [World.size_alloc]; exact Nat.lt_succ_self _) (Nat.le_refl _)).1 | exact (box_put kz hown (by rw [World.size_alloc]; exact Nat.lt_succ_self _) (by have q1 := hbm.size; rw [World.size_alloc]; (try simp only [World.size_drew] at q1); omega)).2
          case rest =>
          obtain ⟨b, A', c', rfl, hbox, hown, hB⟩ := hcut
          have BC := Lib.hid hB
          have OC := Lib.hid hown
          have kb0 := cell_of_row wc _ 0 _ _ _ hbox
          have kb1 := cell_of_row wc _ 1 _ _ _ hbox
          have kb2 := cell_of_row wc _ 2 _ _ _ hbox
          obtain ⟨s0, s1, s2, s3, s4, s5, s6, s7, s8, s9, -, -, -, -, -⟩ := HC.out _ hB
          have HBX := Lib.hid hbox
          clear hB hown hbox
          go_wp2_with fail
          have hho := HHO.out _ A' c' BC.out OC.out
          unfold netV netVal at hho
          rw [HE.out, HE'.out] at hho
          refine hho.mono ?_
          rintro e w3 ⟨rfl, hB3, hown3, hb3⟩
          obtain ⟨hfz, ⟨r0, r1, r2⟩, ⟨f0, f1, f2⟩⟩ := rt_put (r := rtNone) (A := none) (c := 0) hB3.below (show w.heap.size ≤ w.heap.size + 1 + 1 by omega) (HOUT.out _ hB3) (.int .i64 0) (.int .i64 0) (.slice none 0 0)
          obtain ⟨hfv, -, -⟩ := rt_put (r := rtNone) (A := none) (c := 0) hB3.below (show w.heap.size ≤ w.heap.size + 1 + 1 by omega) (HOUT.out _ hB3) (.int .i64 r.kind) (.int .i64 vc) (.slice A' r.path.length c')
          have ho3 := ((hown3.far (q := ⟨w.heap.size + 1 + 1, 0, none⟩) (by dsimp only; omega) (.int .i64 r.kind)).far (q := ⟨w.heap.size + 1 + 1, 1, none⟩) (by dsimp only; omega) (.int .i64 vc)).far (q := ⟨w.heap.size + 1 + 1, 2, none⟩) (by dsimp only; omega) (.slice A' r.path.length c')
          have hb' := box_call HBX.out hb3
          have m0 := cell_of_row w3 _ 0 _ _ _ hb'
          have m1 := cell_of_row w3 _ 1 _ _ _ hb'
          have m2 := cell_of_row w3 _ 2 _ _ _ hb'
          have QV := Lib.hid (fun hq => (HQ.out _ hfv).1 hq A' c' ho3)
          have QZ := Lib.hid (HQ.out _ hfz).2
          clear hho hB3 hown3 hb3 hfz hfv ho3 hb' kb0 kb1 kb2 s0 s1 s2 s3 s4 s5 s6 s7 s8 s9
          cases q with
          | true =>
            go_wp2
            exact bodyPost_ret (v := .agg #[.int .i64 r.kind, .int .i64 vc, .slice A' r.path.length c']) (by simp [results, Tryz.results74, go_sem, r0, r1, r2]) rfl (QV.out (by first | rfl | trivial))
          | false =>
            go_wp2
            exact bodyPost_ret (v := .agg #[.int .i64 0, .int .i64 0, .slice none 0 0]) (by simp [results, Tryz.results74, go_sem, r0, r1, r2]) rfl (QZ.out (by first | rfl | trivial))
theorem overX_any (p : Net) (h : Hd) (k n : Int) (r : Rt) (A : Option Addr) (c : Nat) (w : World) (hp : NetR w w.heap.size p h) (hg : Good p) (hr : RtR w w.heap.size r A c) :
    Calls Tryz.prog 74 #[netV p h, .int .i64 k, .int .i64 n, rtV r A c] w (RtPost (overR p k n r) w) :=
  (overO_any p h k n r A c w hp hg hr).mono fun _ _ ⟨A', c', h1, h2, h3⟩ => ⟨A', c', h1, h2.rt _ _, h3⟩
end Go.Proofs.YtakolnmoieiicaaGreat

/- The walk of short.Along: the route that a way makes. -/
import Derived.Test.YtlnnmjomdblciaaGreatShortL
namespace Go.Proofs.YtlnnmjomdblciaaGreat
set_option linter.unusedSimpArgs false
set_option linter.unusedVariables false
open Go.RowKit

section
/-- Since w2 the route's box (behind the network's) alone has turned, of what was there. -/
structure AlM (w w2 wy : World) : Prop where
  below : Below w.heap.size w wy
  size : w2.heap.size ≤ wy.heap.size
  kept : ∀ k, k < w2.heap.size → k ≠ w.heap.size + 1 → wy.heap[k]? = w2.heap[k]?
structure AlR (w w2 wy : World) (r : Rt) (A : Option Addr) (c : Nat) : Prop where
  m : AlM w w2 wy
  lo : w.heap.size + 1 < w2.heap.size
  box : wy.heap[w.heap.size + 1]? = some (.cells #[.int .i64 r.kind, .int .i64 r.cost, .slice A r.path.length c] 24 (0, 0))
  own : Own wy w2.heap.size 3 1 A r.path.length c (ints r.path)
section
variable {w w2 wy wz : World} {r : Rt} {A : Option Addr} {c : Nat}
theorem AlM.call (a : AlM w w2 wy) (hb : Below wy.heap.size wy wz) : AlM w w2 wz := ⟨since_trans a.below hb, Nat.le_trans a.size hb.size, fun k hk hne => (hb.block k (by have := a.size; omega)).trans (a.kept k hk hne)⟩
theorem AlM.drew (a : AlM w w2 wy) : AlM w w2 wy.drew := a.call (below_drew (Below.refl _ _))
theorem AlM.alloc (a : AlM w w2 wy) (o : Obj) : AlM w w2 (wy.alloc o) := a.call ((Below.refl _ _).alloc (Nat.le_refl _) o)
theorem AlM.set (a : AlM w w2 wy) (i : Nat) (v : Value) : AlM w w2 (wy.setCell ⟨w.heap.size + 1, i, none⟩ v) :=
  ⟨a.below.setCell (by simp) _, by simpa [World.setCell] using a.size, fun k hk hne => (Below.heap_setCell _ _ _ _ hne).trans (a.kept k hk hne)⟩
theorem AlM.grown (a : AlM w w2 wy) {row : Option Nat} (hw : w.heap.size ≤ w2.heap.size) (hg : wy.grownBy wz row) (hr : ∀ g, row = some g → w2.heap.size ≤ g) : AlM w w2 wz :=
  ⟨a.below.grown hg a.below.size (fun g h => by have := hr g h; omega), Nat.le_trans a.size hg.size, fun k hk hne => (hg.block k (by have := a.size; omega) (fun e => by have := hr k e.symm; omega)).trans (a.kept k hk hne)⟩
theorem AlR.call (a : AlR w w2 wy r A c) (hb : Below wy.heap.size wy wz) : AlR w w2 wz r A c := ⟨a.m.call hb, a.lo, (hb.block _ (lt_heap a.box)).trans a.box, a.own.call hb⟩
theorem AlR.drew (a : AlR w w2 wy r A c) : AlR w w2 wy.drew r A c := a.call (below_drew (Below.refl _ _))
theorem AlR.alloc (a : AlR w w2 wy r A c) (o : Obj) : AlR w w2 (wy.alloc o) r A c := a.call ((Below.refl _ _).alloc (Nat.le_refl _) o)
theorem AlR.kind (a : AlR w w2 wy r A c) (k : Int) : AlR w w2 (wy.setCell ⟨w.heap.size + 1, 0, none⟩ (.int .i64 k)) ⟨k, r.cost, r.path⟩ A c :=
  ⟨a.m.set _ _, a.lo, by rw [heap_setCell_same _ _ _ _ _ _ a.box]; simp, a.own.setCell_far (fun g hg => by have := a.own.from_ g hg; have := a.lo; simp; omega) _⟩
theorem AlR.cost (a : AlR w w2 wy r A c) (k : Int) : AlR w w2 (wy.setCell ⟨w.heap.size + 1, 1, none⟩ (.int .i64 k)) ⟨r.kind, k, r.path⟩ A c :=
  ⟨a.m.set _ _, a.lo, by rw [heap_setCell_same _ _ _ _ _ _ a.box]; simp, a.own.setCell_far (fun g hg => by have := a.own.from_ g hg; have := a.lo; simp; omega) _⟩
theorem AlR.grow (a : AlR w w2 wy r A c) (hg : wy.grownBy wz (blk A)) : wz.heap[w.heap.size + 1]? = some (.cells #[.int .i64 r.kind, .int .i64 r.cost, .slice A r.path.length c] 24 (0, 0)) :=
  (hg.block _ (lt_heap a.box) (fun e => by have := a.own.from_ _ e.symm; have := a.lo; omega)).trans a.box
theorem AlR.path (a : AlR w w2 wy r A c) (hg : wy.grownBy wz (blk A)) {A2 : Option Addr} {n c2 : Nat} {q : List Int} (hn : n = q.length) (hown : Own wz w2.heap.size 3 1 A2 n c2 (ints q)) :
    AlR w w2 (wz.setCell ⟨w.heap.size + 1, 2, none⟩ (.slice A2 n c2)) ⟨r.kind, r.cost, q⟩ A2 c2 := by
  subst hn
  refine ⟨(a.m.grown (by have := a.lo; omega) hg a.own.from_).set _ _, a.lo, ?_, hown.setCell_far (fun g hg => by have := hown.from_ g hg; have := a.lo; simp; omega) _⟩
  rw [heap_setCell_same _ _ _ _ _ _ (a.grow hg)]; simp
theorem AlR.at_ (a : AlR w w2 wy r A c) : wy.cell? ⟨w.heap.size + 1, 0, none⟩ = some (.int .i64 r.kind) ∧ wy.cell? ⟨w.heap.size + 1, 1, none⟩ = some (.int .i64 r.cost) ∧ wy.cell? ⟨w.heap.size + 1, 2, none⟩ = some (.slice A r.path.length c) := ⟨cell_of_row wy _ 0 _ _ _ a.box, cell_of_row wy _ 1 _ _ _ a.box, cell_of_row wy _ 2 _ _ _ a.box⟩
theorem AlR.free (a : AlR w w2 wy r A c) (i : Nat) : wy.frozen? ⟨w.heap.size + 1, i, none⟩ = false := frozen_of_row wy _ i _ _ a.box
theorem AlR.rt (a : AlR w w2 wy r A c) : RtR wy wy.heap.size r A c := ⟨a.own.rd, a.own.2.1, a.own.2.2.1⟩
/-- What was read in w2, but for the route's box, reads so. -/
theorem AlM.rd (a : AlM w w2 wy) {s n : Nat} {A : Option Addr} {xs : List Value} (h : Rd w2 w2.heap.size s A n xs) (hne : ∀ g, blk A = some g → g ≠ w.heap.size + 1) : Rd wy w2.heap.size s A n xs := by
  refine ⟨h.1, fun hn => ?_⟩
  obtain ⟨b, o, rfl, hb, hc⟩ := h.2 hn
  exact ⟨b, o, rfl, hb, fun j u hu => (World.cell?_of_block (a.kept b hb (hne b rfl))).trans (hc j u hu)⟩
end
/-- The sum of links' costs. -/
def sumK (p : Net) : List Int → Int
  | [] => 0
  | k :: l => costOf p k + sumK p l
theorem sumK_snoc (p : Net) : ∀ (l : List Int) (k : Int), sumK p (l ++ [k]) = sumK p l + costOf p k
  | [], k => by simp [sumK]
  | x :: l, k => by simp only [List.cons_append, sumK, sumK_snoc p l k]; omega
theorem sumK_bets (p : Net) (f : Int) : ∀ q : List Nat, sumK p (betsL p.links f q) = costL p f q
  | [] => rfl
  | [_] => rfl
  | u :: v :: t => by simp only [betsL, sumK, costL, sumK_bets p f (v :: t)]
theorem sumK_le (p : Net) : ∀ (l : List Int), (∀ k ∈ l, 0 ≤ costOf p k ∧ costOf p k ≤ 15) → 0 ≤ sumK p l ∧ sumK p l ≤ 15 * l.length
  | [], _ => by simp [sumK]
  | x :: l, h => by
    have h1 := h x (by simp)
    have h2 := sumK_le p l (fun k hk => h k (by simp [hk]))
    simp only [sumK, List.length_cons]
    omega
/-- What is known of a way. -/
structure WayQ (p : Net) (f : Int) (q : List Nat) : Prop where
  ex : ∃ b u, b < p.nodes.length ∧ u < p.nodes.length ∧ Gr.Way (Adj p.links f) b u q
section
variable {p : Net} {f : Int} {q : List Nat}
theorem WayQ.lt (h : WayQ p f q) (hg : Good p) : ∀ x ∈ q, x < p.nodes.length := by obtain ⟨b, u, hb, _, hw⟩ := h.ex; exact way_lt hg.lksOk hb hw
theorem WayQ.nodup (h : WayQ p f q) : q.Nodup := by obtain ⟨b, u, hb, _, hw⟩ := h.ex; exact hw.nodup
theorem WayQ.len (h : WayQ p f q) (hg : Good p) : 1 ≤ q.length ∧ q.length ≤ 12 := by
  obtain ⟨b, u, hb, hu, hw⟩ := h.ex
  have h1 := hw.length_le (adj_lt hg.lksOk) hu
  have h2 := hg.n12
  obtain ⟨t, rfl⟩ := hw.head
  simp at h1 ⊢; omega
theorem WayQ.joint (h : WayQ p f q) (hg : Good p) {i u v : Nat} (h1 : q[i]? = some u) (h2 : q[i + 1]? = some v) : ∃ j x, Joint p.links f p.nodes.length u v j x := by
  obtain ⟨b, a, hb, ha, hw⟩ := h.ex
  exact joint_of hg.lksOk hg.pairs (hw.chain i u v h1 h2)
theorem WayQ.eq (h : WayQ p f q) (hg : Good p) : alongR p f q = wayR p f q := by obtain ⟨b, a, hb, ha, hw⟩ := h.ex; exact along_way hg.netG hg.lksOk hg.pairs hb hw
theorem WayQ.bets (h : WayQ p f q) (hg : Good p) {i : Nat} {k : Int} (hk : (betsL p.links f q)[i]? = some k) : ∃ (j : Nat) (x : Lk), k = j ∧ p.links[j]? = some x ∧ costOf p k = x.cost ∧ 1 ≤ x.cost ∧ x.cost ≤ 15 := by
  have hl := (List.getElem?_eq_some_iff.1 hk).1
  rw [bets_len] at hl
  obtain ⟨u, hu⟩ : ∃ u, q[i]? = some u := ⟨_, List.getElem?_eq_getElem (by omega)⟩
  obtain ⟨v, hv⟩ : ∃ v, q[i + 1]? = some v := ⟨_, List.getElem?_eq_getElem (by omega)⟩
  obtain ⟨j, x, jx⟩ := h.joint hg hu hv
  have h1 := bets_at p.links f q i u v hu hv
  rw [hk] at h1
  injection h1 with h1
  rw [jx.bet] at h1
  have := hg.netG.links x (List.mem_of_getElem? jx.at_)
  exact ⟨j, x, h1, jx.at_, by rw [h1]; simp [costOf, jx.at_], this.2.2.2.1, this.2.2.2.2⟩
end
/-- Behind the call of links. -/
theorem al_begin {w : World} {p : Net} {h : Hd} {w1 w2 : World} (hw1 : w1 = (w.alloc (.cells (netCells p h) 31)).alloc (.cells #[.int .i64 0, .int .i64 0, .slice none 0 0] 24)) (hb : Below w1.heap.size w1 w2) :
    AlR w w2 w2 ⟨0, 0, []⟩ none 0 ∧ w2.heap[w.heap.size]? = some (.cells (netCells p h) 31 (0, 0)) := by
  have hs : w1.heap.size = w.heap.size + 1 + 1 := by subst hw1; simp
  have h0 : Below w.heap.size w w1 := by subst hw1; exact ((Below.refl _ _).alloc (Nat.le_refl _) _).alloc (by simp) _
  have h1 : w1.heap[w.heap.size]? = some (.cells (netCells p h) 31 (0, 0)) := by subst hw1; exact (Below.heap_alloc _ _ _ (by simp)).trans (heap_alloc_new _ _)
  have h2 : w1.heap[w.heap.size + 1]? = some (.cells #[.int .i64 0, .int .i64 0, .slice none 0 0] 24 (0, 0)) := by
    subst hw1
    have := heap_alloc_new (w.alloc (.cells (netCells p h) 31)) (.cells #[.int .i64 0, .int .i64 0, .slice none 0 0] 24)
    rwa [World.size_alloc] at this
  refine ⟨⟨⟨since_trans h0 hb, Nat.le_refl _, fun _ _ _ => rfl⟩, by have := hb.size; omega, (hb.block _ (by omega)).trans h2, by simpa [ints] using Own.nil _ _ _ _⟩, (hb.block _ (by omega)).trans h1⟩
/-- The answer is none. -/
theorem al_none {w w2 wy : World} {r x : Rt} {A : Option Addr} {c : Nat} (a : AlR w w2 wy r A c) (hx : x = rtNone) :
    (((wy.setCell ⟨w.heap.size + 1, 0, none⟩ (.int .i64 0)).setCell ⟨w.heap.size + 1, 1, none⟩ (.int .i64 0)).setCell ⟨w.heap.size + 1, 2, none⟩ (.slice none 0 0)).cell? ⟨w.heap.size + 1, 0, none⟩ = some (.int .i64 0) ∧
    (((wy.setCell ⟨w.heap.size + 1, 0, none⟩ (.int .i64 0)).setCell ⟨w.heap.size + 1, 1, none⟩ (.int .i64 0)).setCell ⟨w.heap.size + 1, 2, none⟩ (.slice none 0 0)).cell? ⟨w.heap.size + 1, 1, none⟩ = some (.int .i64 0) ∧
    (((wy.setCell ⟨w.heap.size + 1, 0, none⟩ (.int .i64 0)).setCell ⟨w.heap.size + 1, 1, none⟩ (.int .i64 0)).setCell ⟨w.heap.size + 1, 2, none⟩ (.slice none 0 0)).cell? ⟨w.heap.size + 1, 2, none⟩ = some (.slice none 0 0) ∧
    OrPost x w (.returned (rtV rtNone none 0)) (((wy.setCell ⟨w.heap.size + 1, 0, none⟩ (.int .i64 0)).setCell ⟨w.heap.size + 1, 1, none⟩ (.int .i64 0)).setCell ⟨w.heap.size + 1, 2, none⟩ (.slice none 0 0)) := by
  subst hx
  have h1 := heap_setCell_same wy (w.heap.size + 1) 0 _ _ (.int .i64 0) a.box
  have h2 := heap_setCell_same _ (w.heap.size + 1) 1 _ _ (.int .i64 0) h1
  have h3 := heap_setCell_same _ (w.heap.size + 1) 2 _ _ (.slice none 0 0) h2
  exact ⟨cell_of_row _ _ 0 _ _ _ h3, cell_of_row _ _ 1 _ _ _ h3, cell_of_row _ _ 2 _ _ _ h3, none, 0, rfl, .inl (Own.nil _ _ _ _), ((a.m.set _ _).set _ _ |>.set _ _).below⟩
attribute [local go_sem ↓] Go.wp_at_zero Go.wp_at_succ
set_option maxRecDepth 100000 in
set_option maxHeartbeats 4000000 in
theorem alongV_any (p : Net) (h : Hd) (f : Int) (q : List Nat) (A : Option Addr) (c : Nat) (w : World) (hp : NetR w w.heap.size p h) (hg : Good p) (hpr : p.proto ≠ 2) (hr : Rd w w.heap.size 1 A q.length (nats q)) (hc : q.length ≤ c) (hcm : c ≤ maxLen) (hq : WayQ p f q) :
    Calls Tryz.prog 25 #[netV p h, .int .i64 f, .slice A q.length c] w (OrPost (alongR p f q) w) := by
  have HG := Lib.hid hg
  have HQ := Lib.hid hq
  have HP := Lib.hid hp
  have HR := Lib.hid hr
  obtain ⟨hl1, hl12⟩ := hq.len hg
  have HLL := Lib.hid (bets_len p.links f q)
  have hb2 : (p.proto == 2) = false := by simpa using hpr
  have HAL := Lib.hid (show alongR p f q = if rtRightB ⟨1, costL p f q, []⟩ then ⟨1, costL p f q, []⟩ else rtNone from by unfold alongR; rw [if_neg hpr])
  have HSK := Lib.hid (sumK_bets p f q)
  have hl16 := hg.l16
  obtain ⟨w1, hw1⟩ : ∃ w1, w1 = (w.alloc (.cells (netCells p h) 31)).alloc (.cells #[.int .i64 0, .int .i64 0, .slice none 0 0] 24) := ⟨_, rfl⟩
  have h01 : Below w.heap.size w w1 := by rw [hw1]; exact ((Below.refl _ _).alloc (Nat.le_refl _) _).alloc (by simp) _
  have HW1 := Lib.hid hw1
  have B1 := Lib.hid h01
  unfold netV netVal
  unfold netCells at hw1
  clear hg hq hp hr h01
  go_enter Tryz.func25, Tryz.ntmps25
  go_upto_region 1 with fail
  rw [← hw1]
  have PCx : w1.cell? ⟨w.heap.size, 0, none⟩ = some (.int .i64 p.proto) ∧ w1.cell? ⟨w.heap.size, 1, none⟩ = some (.int .i64 p.cap) ∧ w1.cell? ⟨w.heap.size, 2, none⟩ = some (.int .i64 p.k) ∧ w1.cell? ⟨w.heap.size, 3, none⟩ = some (.slice h.an p.nodes.length h.cn) ∧ w1.cell? ⟨w.heap.size, 4, none⟩ = some (.slice h.al p.links.length h.cl) ∧ w1.cell? ⟨w.heap.size, 5, none⟩ = some (.slice h.ad p.dests.length h.cd) ∧ w1.cell? ⟨w.heap.size, 6, none⟩ = some (.slice h.ac p.checks.length h.cc) := by
    have := (al_begin HW1.out (Below.refl _ _)).2
    exact ⟨cell_of_row _ _ 0 _ _ _ this, cell_of_row _ _ 1 _ _ _ this, cell_of_row _ _ 2 _ _ _ this, cell_of_row _ _ 3 _ _ _ this, cell_of_row _ _ 4 _ _ _ this, cell_of_row _ _ 5 _ _ _ this, cell_of_row _ _ 6 _ _ _ this⟩
  obtain ⟨g0, g1, g2, g3, g4, g5, g6⟩ := PCx
  clear hw1
  go_wp2_with fail
  refine (slinks_any p h f q A c w1 (HP.out.call B1.out) HG.out ((HR.out.below B1.out (Nat.le_refl _)).more B1.out.size) hc hcm hl12 hl1 HQ.out.nodup (HQ.out.lt HG.out) (fun i u v h1 h2 => by obtain ⟨j, x, jx⟩ := HQ.out.joint HG.out h1 h2; rw [jx.bet]; omega)).mono ?_
  rintro e w2 ⟨KA, kc, rfl, hko, hb2'⟩
  obtain ⟨ha, hpl⟩ := al_begin HW1.out hb2'
  have A2 := Lib.hid ha
  have PL := Lib.hid hpl
  have KO := Lib.hid hko
  have h21 := hb2'.size
  have HNE := Lib.hid (show ∀ g, blk KA = some g → g ≠ w.heap.size + 1 from fun g hg => by
    have h1 := hko.from_ g hg
    have h2 : w1.heap.size = w.heap.size + 1 + 1 := by rw [HW1.out]; simp
    omega)
  obtain ⟨c0, c1, c2⟩ := ha.at_
  have f0 := ha.free 0
  have p0 : w2.cell? ⟨w.heap.size, 0, none⟩ = some (.int .i64 p.proto) := cell_of_row w2 _ 0 _ _ _ hpl
  clear ha hpl hko hb2' g0 g1 g2 g3 g4 g5 g6 hcm
  go_upto_region 6 with fail
  have A3 := Lib.hid (A2.out.kind 1)
  generalize (w2.setCell ⟨w.heap.size + 1, 0, none⟩ (.int .i64 1)) = w3 at *
  clear c0 c1 c2 f0 p0
  generalize hK : betsL p.links f q = K at *
  have HKK := Lib.hid hK
  clear hK
  go_wp2_with fail
  go_loopw [27] (fun si wx => ∃ i : Nat, i ≤ K.length ∧ si = .int .i64 i ∧ AlR w w2 wx ⟨1, sumK p (K.take i), []⟩ none 0) (fun si _ => K.length - (intOf si).toNat)
  case atStart => exact ⟨0, by omega, rfl, A3.out⟩
  case round =>
    obtain ⟨i, hi, rfl, hA⟩ := hrel
    have AX := Lib.hid hA
    clear hA
    by_cases hlt : i < K.length
    · obtain ⟨k, hk⟩ : ∃ k, K[i]? = some k := ⟨_, List.getElem?_eq_getElem hlt⟩
      obtain ⟨j, x, rfl, hx, hcx, hx1, hx2⟩ := HQ.out.bets HG.out (by rw [HKK.out]; exact hk)
      obtain ⟨bk, ok_, rfl, -, hkc⟩ := (AX.out.m.rd KO.out.rd HNE.out).one (i := i) (x := .int .i64 (j : Int)) (by simp [ints, hk])
      obtain ⟨lb, lo, hal, hlb, -, -, hlc⟩ := HP.out.links.link hx
      have HALX := Lib.hid hal
      have hjl : j < p.links.length := (List.getElem?_eq_some_iff.1 hx).1
      have hlt' : (i : Int) < (K.length : Int) := by omega
      have hi0 : (0 : Int) ≤ (i : Int) := by omega
      have hj0 : (0 : Int) ≤ (j : Int) := by omega
      have hjl' : (j : Int) < (p.links.length : Int) := by omega
      have HC := Lib.hid (fun (wy : World) (a : AlM w w2 wy) => (show wy.cell? ⟨w.heap.size, 4, none⟩ = some (.slice (some ⟨lb, lo, none⟩) p.links.length h.cl) ∧ wy.cell? ⟨lb, lo + j * 3 + 2, none⟩ = some (.int .i64 x.cost) from
        ⟨by
          have := (a.kept w.heap.size (by have := A2.out.lo; omega) (by omega)).trans PL.out
          have h1 : wy.cell? ⟨w.heap.size, 4, none⟩ = some (.slice h.al p.links.length h.cl) := cell_of_row wy _ 4 _ _ _ this
          rw [h1, hal], (a.below.cell (p := ⟨lb, lo + j * 3 + 2, none⟩) hlb).trans hlc⟩))
      have HT : Hid (sumK p (K.take (i + 1)) = sumK p (K.take i) + x.cost) := Lib.hid (by rw [List.take_add_one, hk]; show sumK p (K.take i ++ [((j : Nat) : Int)]) = _; rw [sumK_snoc, hcx])
      have hsk := sumK_le p (K.take i) (fun k hk' => by
        obtain ⟨m, hm, e⟩ := List.mem_iff_getElem.1 hk'
        rw [List.getElem_take] at e
        obtain ⟨j', x', e', _, h1, h2, h3⟩ := HQ.out.bets HG.out (i := m) (k := k) (by rw [HKK.out, ← e]; exact List.getElem?_eq_getElem _)
        omega)
      have hKl : K.length ≤ 12 := by rw [HLL.out]; omega
      have hsk2 : sumK p (K.take i) ≤ 180 := by rw [List.length_take] at hsk; omega
      have hsk1 := hsk.1
      generalize sumK p (K.take i) = sv at *
      clear hal hx hcx hk hlc hsk
      have hcw : IntKind.i64.wrap (sv + x.cost) = sv + x.cost := IntWalk.i64_in _ (by omega)
      have p0 : wr.cell? ⟨w.heap.size, 0, none⟩ = some (.int .i64 p.proto) := cell_of_row wr _ 0 _ _ _ ((AX.out.m.kept w.heap.size (by have := A2.out.lo; omega) (by omega)).trans PL.out)
      go_upto_region 11 with fail
      obtain ⟨c0, c1, c2⟩ := AX.out.drew.at_
      have f1 := AX.out.drew.free 1
      have hm0 := AX.out.m.drew
      clear hkc p0 hlt'
      refine wp_region_held_drew (S := (fun wy => wy.cell? ⟨w.heap.size, 4, none⟩ = some (.slice (some ⟨lb, lo, none⟩) p.links.length h.cl) ∧ wy.cell? ⟨lb, lo + j * 3 + 2, none⟩ = some (.int .i64 x.cost))) (by kernel_rfl) (HC.out _ hm0) (fun hHeld0 => ?_)
      refine take_list (i := 0) (v := ?_) rfl (by kernel_rfl) (by kernel_rfl) (by kernel_rfl) (fun _ _ _ h => h) (Or.inl ⟨by rfl, ?_⟩) (by assumption) ?_
      rotate_left
      · (intro w hSw; (try dsimp only at hSw); go_simp; try (with_reducible rfl))
      try simp only [Act.put, List.setIfInBounds_toArray, List.set_cons_zero, List.set_cons_succ]
      refine take_list (i := 2) (v := ?_) rfl (by kernel_rfl) (by kernel_rfl) (by kernel_rfl) (fun _ _ _ h => h) (Or.inl ⟨by rfl, ?_⟩) (by assumption) ?_
      rotate_left
      · (intro w hSw; (try dsimp only at hSw); go_simp; try (with_reducible rfl))
      try simp only [Act.put, List.setIfInBounds_toArray, List.set_cons_zero, List.set_cons_succ]
      refine take_list (i := 3) (v := ?_) rfl (by kernel_rfl) (by kernel_rfl) (by kernel_rfl) (fun _ _ _ h => h) (Or.inl ⟨by rfl, ?_⟩) (by assumption) ?_
      rotate_left
      · (intro w hSw; (try dsimp only at hSw); go_simp; try (with_reducible rfl))
      try simp only [Act.put, List.setIfInBounds_toArray, List.set_cons_zero, List.set_cons_succ]
      refine take_list (i := 4) (v := ?_) rfl (by kernel_rfl) (by kernel_rfl) (by kernel_rfl) (fun _ _ _ h => h) (Or.inl ⟨by rfl, ?_⟩) (by assumption) ?_
      rotate_left
      · (intro w hSw; (try dsimp only at hSw); go_simp; try (with_reducible rfl))
      try simp only [Act.put, List.setIfInBounds_toArray, List.set_cons_zero, List.set_cons_succ]
      refine take_list (i := 5) (v := ?_) rfl (by kernel_rfl) (by kernel_rfl) (by kernel_rfl) (fun _ _ _ h => h) (Or.inl ⟨by rfl, ?_⟩) (by assumption) ?_
      rotate_left
      · (intro w hSw; (try dsimp only at hSw); go_simp; try (with_reducible rfl))
      try simp only [Act.put, List.setIfInBounds_toArray, List.set_cons_zero, List.set_cons_succ]
      refine take_list (i := 6) (v := ?_) rfl (by kernel_rfl) (by kernel_rfl) (by kernel_rfl) (fun _ _ _ h => h) (Or.inl ⟨by rfl, ?_⟩) (by assumption) ?_
      rotate_left
      · (intro w hSw; (try dsimp only at hSw); go_simp; try (with_reducible rfl))
      try simp only [Act.put, List.setIfInBounds_toArray, List.set_cons_zero, List.set_cons_succ]
      refine take_list (i := 7) (v := ?_) rfl (by kernel_rfl) (by kernel_rfl) (by kernel_rfl) (fun _ _ _ h => h) (Or.inl ⟨by rfl, ?_⟩) (by assumption) ?_
      rotate_left
      · (intro w hSw; (try dsimp only at hSw); go_simp; try (with_reducible rfl))
      try simp only [Act.put, List.setIfInBounds_toArray, List.set_cons_zero, List.set_cons_succ]
      refine wpAnyH_ready (rs := [1]) (by kernel_rfl) (by simp) ?_
      refine cons_list rfl (fun K hK => ?_) AllReadyH.nil
      go_simp
      refine hK.out _ _ (HC.out _ (by first | assumption | exact AlM.set (by assumption) _ _)) (fun hHeld1 => ?_)
      clear hK K hHeld0
      try simp only [Act.put, List.setIfInBounds_toArray, List.set_cons_zero, List.set_cons_succ]
      refine take_list (i := 8) (v := ?_) rfl (by kernel_rfl) (by kernel_rfl) (by kernel_rfl) (fun _ _ _ h => h) (Or.inl ⟨by rfl, ?_⟩) (by assumption) ?_
      rotate_left
      · (intro w hSw; (try dsimp only at hSw); go_simp; try (with_reducible rfl))
      try simp only [Act.put, List.setIfInBounds_toArray, List.set_cons_zero, List.set_cons_succ]
      refine take_list (i := 9) (v := ?_) rfl (by kernel_rfl) (by kernel_rfl) (by kernel_rfl) (fun _ _ _ h => h) (Or.inl ⟨by rfl, ?_⟩) (by assumption) ?_
      rotate_left
      · (intro w hSw; (try dsimp only at hSw); go_simp; try (with_reducible rfl))
      try simp only [Act.put, List.setIfInBounds_toArray, List.set_cons_zero, List.set_cons_succ]
      refine wpAnyH_ready (rs := [10]) (by kernel_rfl) (by simp) ?_
      refine cons_list rfl (fun K hK => ?_) AllReadyH.nil
      go_simp
      refine hK.out _ _ (HC.out _ (by first | assumption | exact AlM.set (by assumption) _ _)) (fun hHeld2 => ?_)
      clear hK K hHeld1
      try simp only [Act.put, List.setIfInBounds_toArray, List.set_cons_zero, List.set_cons_succ]
      refine wpAnyH_done (by kernel_rfl) ?_ _
      clear hHeld2
      have A5 := Lib.hid (AX.out.drew.cost (sv + x.cost))
      go_wp2_with fail
      go_roundw
      case rel => exact ⟨i + 1, by omega, by go_num, by rw [HT.out]; exact A5.out⟩
      case measure => simp [intOf]; omega
    · have hie : i = K.length := by omega
      have hlt' : (K.length : Int) ≤ (i : Int) := by omega
      subst hie
      have AY : Hid (AlR w w2 wr ⟨1, costL p f q, []⟩ none 0) := Lib.hid (by have := AX.out; rwa [List.take_length, HSK.out] at this)
      clear hlt
      go_upto_region 13 with fail
      generalize costL p f q = cv at *
      have HPK : Hid (∀ wy, Below wr.heap.size wr wy → wy.cell? ⟨w.heap.size, 0, none⟩ = some (.int .i64 p.proto)) := Lib.hid (fun wy hb => cell_of_row wy _ 0 _ _ _ ((((AY.out.call hb).m.kept w.heap.size (by have := A2.out.lo; omega) (by omega)).trans PL.out)))
      have HC := Lib.hid (fun (wy : World) (hb : Below wr.heap.size wr wy) => (show (wy.cell? ⟨w.heap.size + 1, 0, none⟩ = some (.int .i64 1) ∧ wy.cell? ⟨w.heap.size + 1, 1, none⟩ = some (.int .i64 cv) ∧ wy.cell? ⟨w.heap.size + 1, 2, none⟩ = some (.slice none 0 0)) ∧ wy.cell? ⟨w.heap.size, 0, none⟩ = some (.int .i64 p.proto) from ⟨(AY.out.call hb).at_, HPK.out wy hb⟩))
      have RR := Lib.hid (fun (wy : World) (hb : Below wr.heap.size wr wy) => (show Calls Tryz.prog 24 #[.agg #[.int .i64 1, .int .i64 cv, .slice none 0 0]] wy fun e w' => e = .returned (.bool (rtRightB ⟨1, cv, []⟩)) ∧ Below wr.heap.size wr w' from
        (right_rt ⟨1, cv, []⟩ none 0 wy (AY.out.call hb).rt).mono fun e w' ⟨e1, e2⟩ => ⟨e1, since_trans hb e2⟩))
      have hk0 : Below wr.heap.size wr wr.drew := below_drew (Below.refl _ _)
      cases hrb : rtRightB ⟨1, cv, []⟩ with
      | true =>
        have HF : Hid (alongR p f q = ⟨1, cv, []⟩) := Lib.hid (by rw [HAL.out, hrb]; rfl)
        rw [hrb] at RR
        clear hrb
        refine wp_region_held_drew (S := (fun wy => (wy.cell? ⟨w.heap.size + 1, 0, none⟩ = some (.int .i64 1) ∧ wy.cell? ⟨w.heap.size + 1, 1, none⟩ = some (.int .i64 cv) ∧ wy.cell? ⟨w.heap.size + 1, 2, none⟩ = some (.slice none 0 0)) ∧ wy.cell? ⟨w.heap.size, 0, none⟩ = some (.int .i64 p.proto))) (by kernel_rfl) (HC.out _ hk0) (fun hHeld0 => ?_)
        refine take_list (i := 0) (v := ?_) rfl (by kernel_rfl) (by kernel_rfl) (by kernel_rfl) (fun _ _ _ h => h) (Or.inl ⟨by rfl, ?_⟩) (by assumption) ?_
        rotate_left
        · (intro w hSw; (try dsimp only at hSw); go_simp; try (with_reducible rfl))
        try simp only [Act.put, List.setIfInBounds_toArray, List.set_cons_zero, List.set_cons_succ]
        refine wpAnyH_ready (rs := [1]) (by kernel_rfl) (by simp) ?_
        refine cons_list rfl (fun K hK => ?_) AllReadyH.nil
        go_simp
        (go_at_call 24; refine (RR.out _ hk0).mono ?_; rintro e w5 ⟨rfl, hb5⟩)
        refine hK.out _ _ (HC.out _ (by assumption)) (fun hHeld1 => ?_)
        clear hK K hHeld0
        try simp only [Act.put, List.setIfInBounds_toArray, List.set_cons_zero, List.set_cons_succ]
        refine take_list (i := 2) (v := ?_) rfl (by kernel_rfl) (by kernel_rfl) (by kernel_rfl) (fun _ _ _ h => h) (Or.inl ⟨by rfl, ?_⟩) (by assumption) ?_
        rotate_left
        · (intro w hSw; (try dsimp only at hSw); go_simp; try (with_reducible rfl))
        try simp only [Act.put, List.setIfInBounds_toArray, List.set_cons_zero, List.set_cons_succ]
        refine take_list (i := 3) (v := ?_) rfl (by kernel_rfl) (by kernel_rfl) (by kernel_rfl) (fun _ _ _ h => h) (Or.inl ⟨by rfl, ?_⟩) (by assumption) ?_
        rotate_left
        · (intro w hSw; (try dsimp only at hSw); go_simp; try (with_reducible rfl))
        try simp only [Act.put, List.setIfInBounds_toArray, List.set_cons_zero, List.set_cons_succ]
        refine take_list (i := 4) (v := ?_) rfl (by kernel_rfl) (by kernel_rfl) (by kernel_rfl) (fun _ _ _ h => h) (Or.inl ⟨by rfl, ?_⟩) (by assumption) ?_
        rotate_left
        · (intro w hSw; (try dsimp only at hSw); go_simp; try (with_reducible rfl))
        try simp only [Act.put, List.setIfInBounds_toArray, List.set_cons_zero, List.set_cons_succ]
        refine take_list (i := 5) (v := ?_) rfl (by kernel_rfl) (by kernel_rfl) (by kernel_rfl) (fun _ _ _ h => h) (Or.inl ⟨by rfl, ?_⟩) (by assumption) ?_
        rotate_left
        · (intro w hSw; (try dsimp only at hSw); go_simp; try (with_reducible rfl))
        try simp only [Act.put, List.setIfInBounds_toArray, List.set_cons_zero, List.set_cons_succ]
        refine take_list (i := 6) (v := ?_) rfl (by kernel_rfl) (by kernel_rfl) (by kernel_rfl) (fun _ _ _ h => h) (Or.inl ⟨by rfl, ?_⟩) (by assumption) ?_
        rotate_left
        · (intro w hSw; (try dsimp only at hSw); go_simp; try (with_reducible rfl))
        try simp only [Act.put, List.setIfInBounds_toArray, List.set_cons_zero, List.set_cons_succ]
        refine take_list (i := 7) (v := ?_) rfl (by kernel_rfl) (by kernel_rfl) (by kernel_rfl) (fun _ _ _ h => h) (Or.inl ⟨by rfl, ?_⟩) (by assumption) ?_
        rotate_left
        · (intro w hSw; (try dsimp only at hSw); go_simp; try (with_reducible rfl))
        try simp only [Act.put, List.setIfInBounds_toArray, List.set_cons_zero, List.set_cons_succ]
        refine take_list (i := 8) (v := undef) rfl (by kernel_rfl) (by kernel_rfl) (by kernel_rfl) (fun _ _ _ h => h) (Or.inr ⟨by rfl, rfl⟩) (by assumption) ?_
        try simp only [Act.put, List.setIfInBounds_toArray, List.set_cons_zero, List.set_cons_succ]
        refine take_list (i := 9) (v := undef) rfl (by kernel_rfl) (by kernel_rfl) (by kernel_rfl) (fun _ _ _ h => h) (Or.inr ⟨by rfl, rfl⟩) (by assumption) ?_
        try simp only [Act.put, List.setIfInBounds_toArray, List.set_cons_zero, List.set_cons_succ]
        refine take_list (i := 10) (v := undef) rfl (by kernel_rfl) (by kernel_rfl) (by kernel_rfl) (fun _ _ _ h => h) (Or.inr ⟨by rfl, rfl⟩) (by assumption) ?_
        try simp only [Act.put, List.setIfInBounds_toArray, List.set_cons_zero, List.set_cons_succ]
        refine take_list (i := 11) (v := undef) rfl (by kernel_rfl) (by kernel_rfl) (by kernel_rfl) (fun _ _ _ h => h) (Or.inr ⟨by rfl, rfl⟩) (by assumption) ?_
        try simp only [Act.put, List.setIfInBounds_toArray, List.set_cons_zero, List.set_cons_succ]
        refine take_list (i := 12) (v := undef) rfl (by kernel_rfl) (by kernel_rfl) (by kernel_rfl) (fun _ _ _ h => h) (Or.inr ⟨by rfl, rfl⟩) (by assumption) ?_
        try simp only [Act.put, List.setIfInBounds_toArray, List.set_cons_zero, List.set_cons_succ]
        refine take_list (i := 13) (v := undef) rfl (by kernel_rfl) (by kernel_rfl) (by kernel_rfl) (fun _ _ _ h => h) (Or.inr ⟨by rfl, rfl⟩) (by assumption) ?_
        try simp only [Act.put, List.setIfInBounds_toArray, List.set_cons_zero, List.set_cons_succ]
        refine take_list (i := 14) (v := undef) rfl (by kernel_rfl) (by kernel_rfl) (by kernel_rfl) (fun _ _ _ h => h) (Or.inr ⟨by rfl, rfl⟩) (by assumption) ?_
        try simp only [Act.put, List.setIfInBounds_toArray, List.set_cons_zero, List.set_cons_succ]
        refine take_list (i := 15) (v := undef) rfl (by kernel_rfl) (by kernel_rfl) (by kernel_rfl) (fun _ _ _ h => h) (Or.inr ⟨by rfl, rfl⟩) (by assumption) ?_
        try simp only [Act.put, List.setIfInBounds_toArray, List.set_cons_zero, List.set_cons_succ]
        refine take_list (i := 16) (v := undef) rfl (by kernel_rfl) (by kernel_rfl) (by kernel_rfl) (fun _ _ _ h => h) (Or.inr ⟨by rfl, rfl⟩) (by assumption) ?_
        try simp only [Act.put, List.setIfInBounds_toArray, List.set_cons_zero, List.set_cons_succ]
        refine take_list (i := 17) (v := undef) rfl (by kernel_rfl) (by kernel_rfl) (by kernel_rfl) (fun _ _ _ h => h) (Or.inr ⟨by rfl, rfl⟩) (by assumption) ?_
        try simp only [Act.put, List.setIfInBounds_toArray, List.set_cons_zero, List.set_cons_succ]
        refine take_list (i := 18) (v := undef) rfl (by kernel_rfl) (by kernel_rfl) (by kernel_rfl) (fun _ _ _ h => h) (Or.inr ⟨by rfl, rfl⟩) (by assumption) ?_
        try simp only [Act.put, List.setIfInBounds_toArray, List.set_cons_zero, List.set_cons_succ]
        refine take_list (i := 19) (v := undef) rfl (by kernel_rfl) (by kernel_rfl) (by kernel_rfl) (fun _ _ _ h => h) (Or.inr ⟨by rfl, rfl⟩) (by assumption) ?_
        try simp only [Act.put, List.setIfInBounds_toArray, List.set_cons_zero, List.set_cons_succ]
        refine take_list (i := 20) (v := undef) rfl (by kernel_rfl) (by kernel_rfl) (by kernel_rfl) (fun _ _ _ h => h) (Or.inr ⟨by rfl, rfl⟩) (by assumption) ?_
        try simp only [Act.put, List.setIfInBounds_toArray, List.set_cons_zero, List.set_cons_succ]
        refine take_list (i := 21) (v := undef) rfl (by kernel_rfl) (by kernel_rfl) (by kernel_rfl) (fun _ _ _ h => h) (Or.inr ⟨by rfl, rfl⟩) (by assumption) ?_
        try simp only [Act.put, List.setIfInBounds_toArray, List.set_cons_zero, List.set_cons_succ]
        refine take_list (i := 22) (v := undef) rfl (by kernel_rfl) (by kernel_rfl) (by kernel_rfl) (fun _ _ _ h => h) (Or.inr ⟨by rfl, rfl⟩) (by assumption) ?_
        try simp only [Act.put, List.setIfInBounds_toArray, List.set_cons_zero, List.set_cons_succ]
        refine take_list (i := 23) (v := undef) rfl (by kernel_rfl) (by kernel_rfl) (by kernel_rfl) (fun _ _ _ h => h) (Or.inr ⟨by rfl, rfl⟩) (by assumption) ?_
        try simp only [Act.put, List.setIfInBounds_toArray, List.set_cons_zero, List.set_cons_succ]
        refine take_list (i := 24) (v := undef) rfl (by kernel_rfl) (by kernel_rfl) (by kernel_rfl) (fun _ _ _ h => h) (Or.inr ⟨by rfl, rfl⟩) (by assumption) ?_
        try simp only [Act.put, List.setIfInBounds_toArray, List.set_cons_zero, List.set_cons_succ]
        refine take_list (i := 25) (v := undef) rfl (by kernel_rfl) (by kernel_rfl) (by kernel_rfl) (fun _ _ _ h => h) (Or.inr ⟨by rfl, rfl⟩) (by assumption) ?_
        try simp only [Act.put, List.setIfInBounds_toArray, List.set_cons_zero, List.set_cons_succ]
        refine take_list (i := 26) (v := undef) rfl (by kernel_rfl) (by kernel_rfl) (by kernel_rfl) (fun _ _ _ h => h) (Or.inr ⟨by rfl, rfl⟩) (by assumption) ?_
        try simp only [Act.put, List.setIfInBounds_toArray, List.set_cons_zero, List.set_cons_succ]
        refine take_list (i := 27) (v := ?_) rfl (by kernel_rfl) (by kernel_rfl) (by kernel_rfl) (fun _ _ _ h => h) (Or.inl ⟨by rfl, ?_⟩) (by assumption) ?_
        rotate_left
        · (intro w hSw; (try dsimp only at hSw); go_simp; try (with_reducible rfl))
        try simp only [Act.put, List.setIfInBounds_toArray, List.set_cons_zero, List.set_cons_succ]
        refine take_list (i := 28) (v := ?_) rfl (by kernel_rfl) (by kernel_rfl) (by kernel_rfl) (fun _ _ _ h => h) (Or.inl ⟨by rfl, ?_⟩) (by assumption) ?_
        rotate_left
        · (intro w hSw; (try dsimp only at hSw); go_simp; try (with_reducible rfl))
        try simp only [Act.put, List.setIfInBounds_toArray, List.set_cons_zero, List.set_cons_succ]
        refine wpAnyH_done (by kernel_rfl) ?_ _
        clear hHeld1
        obtain ⟨r0, r1, r2⟩ := (AY.out.call hb5).at_
        have HP5 : Hid (OrPost (alongR p f q) w (.returned (rtV ⟨1, cv, []⟩ none 0)) w5) := Lib.hid (by
          rw [HF.out]
          have := AY.out.call hb5
          exact ⟨none, 0, rfl, .inl (this.own.more (by have := this.lo; omega)), this.m.below⟩)
        clear hb5 hk0
        go_wp2
        exact bodyPost_ret (v := rtV ⟨1, cv, []⟩ none 0) (by simp [results, Tryz.results25, go_sem, rtV, r0, r1, r2]) rfl HP5.out
      | false =>
        have HF : Hid (alongR p f q = rtNone) := Lib.hid (by rw [HAL.out, hrb]; rfl)
        rw [hrb] at RR
        clear hrb
        refine wp_region_held_drew (S := (fun wy => (wy.cell? ⟨w.heap.size + 1, 0, none⟩ = some (.int .i64 1) ∧ wy.cell? ⟨w.heap.size + 1, 1, none⟩ = some (.int .i64 cv) ∧ wy.cell? ⟨w.heap.size + 1, 2, none⟩ = some (.slice none 0 0)) ∧ wy.cell? ⟨w.heap.size, 0, none⟩ = some (.int .i64 p.proto))) (by kernel_rfl) (HC.out _ hk0) (fun hHeld0 => ?_)
        refine take_list (i := 0) (v := ?_) rfl (by kernel_rfl) (by kernel_rfl) (by kernel_rfl) (fun _ _ _ h => h) (Or.inl ⟨by rfl, ?_⟩) (by assumption) ?_
        rotate_left
        · (intro w hSw; (try dsimp only at hSw); go_simp; try (with_reducible rfl))
        try simp only [Act.put, List.setIfInBounds_toArray, List.set_cons_zero, List.set_cons_succ]
        refine wpAnyH_ready (rs := [1]) (by kernel_rfl) (by simp) ?_
        refine cons_list rfl (fun K hK => ?_) AllReadyH.nil
        go_simp
        (go_at_call 24; refine (RR.out _ hk0).mono ?_; rintro e w5 ⟨rfl, hb5⟩)
        refine hK.out _ _ (HC.out _ (by assumption)) (fun hHeld1 => ?_)
        clear hK K hHeld0
        try simp only [Act.put, List.setIfInBounds_toArray, List.set_cons_zero, List.set_cons_succ]
        refine take_list (i := 2) (v := ?_) rfl (by kernel_rfl) (by kernel_rfl) (by kernel_rfl) (fun _ _ _ h => h) (Or.inl ⟨by rfl, ?_⟩) (by assumption) ?_
        rotate_left
        · (intro w hSw; (try dsimp only at hSw); go_simp; try (with_reducible rfl))
        try simp only [Act.put, List.setIfInBounds_toArray, List.set_cons_zero, List.set_cons_succ]
        refine take_list (i := 3) (v := ?_) rfl (by kernel_rfl) (by kernel_rfl) (by kernel_rfl) (fun _ _ _ h => h) (Or.inl ⟨by rfl, ?_⟩) (by assumption) ?_
        rotate_left
        · (intro w hSw; (try dsimp only at hSw); go_simp; try (with_reducible rfl))
        try simp only [Act.put, List.setIfInBounds_toArray, List.set_cons_zero, List.set_cons_succ]
        refine take_list (i := 4) (v := undef) rfl (by kernel_rfl) (by kernel_rfl) (by kernel_rfl) (fun _ _ _ h => h) (Or.inr ⟨by rfl, rfl⟩) (by assumption) ?_
        try simp only [Act.put, List.setIfInBounds_toArray, List.set_cons_zero, List.set_cons_succ]
        refine take_list (i := 5) (v := undef) rfl (by kernel_rfl) (by kernel_rfl) (by kernel_rfl) (fun _ _ _ h => h) (Or.inr ⟨by rfl, rfl⟩) (by assumption) ?_
        try simp only [Act.put, List.setIfInBounds_toArray, List.set_cons_zero, List.set_cons_succ]
        refine take_list (i := 6) (v := undef) rfl (by kernel_rfl) (by kernel_rfl) (by kernel_rfl) (fun _ _ _ h => h) (Or.inr ⟨by rfl, rfl⟩) (by assumption) ?_
        try simp only [Act.put, List.setIfInBounds_toArray, List.set_cons_zero, List.set_cons_succ]
        refine take_list (i := 7) (v := undef) rfl (by kernel_rfl) (by kernel_rfl) (by kernel_rfl) (fun _ _ _ h => h) (Or.inr ⟨by rfl, rfl⟩) (by assumption) ?_
        try simp only [Act.put, List.setIfInBounds_toArray, List.set_cons_zero, List.set_cons_succ]
        refine take_list (i := 8) (v := undef) rfl (by kernel_rfl) (by kernel_rfl) (by kernel_rfl) (fun _ _ _ h => h) (Or.inr ⟨by rfl, rfl⟩) (by assumption) ?_
        try simp only [Act.put, List.setIfInBounds_toArray, List.set_cons_zero, List.set_cons_succ]
        refine take_list (i := 9) (v := undef) rfl (by kernel_rfl) (by kernel_rfl) (by kernel_rfl) (fun _ _ _ h => h) (Or.inr ⟨by rfl, rfl⟩) (by assumption) ?_
        try simp only [Act.put, List.setIfInBounds_toArray, List.set_cons_zero, List.set_cons_succ]
        refine take_list (i := 10) (v := undef) rfl (by kernel_rfl) (by kernel_rfl) (by kernel_rfl) (fun _ _ _ h => h) (Or.inr ⟨by rfl, rfl⟩) (by assumption) ?_
        try simp only [Act.put, List.setIfInBounds_toArray, List.set_cons_zero, List.set_cons_succ]
        refine take_list (i := 11) (v := undef) rfl (by kernel_rfl) (by kernel_rfl) (by kernel_rfl) (fun _ _ _ h => h) (Or.inr ⟨by rfl, rfl⟩) (by assumption) ?_
        try simp only [Act.put, List.setIfInBounds_toArray, List.set_cons_zero, List.set_cons_succ]
        refine take_list (i := 12) (v := undef) rfl (by kernel_rfl) (by kernel_rfl) (by kernel_rfl) (fun _ _ _ h => h) (Or.inr ⟨by rfl, rfl⟩) (by assumption) ?_
        try simp only [Act.put, List.setIfInBounds_toArray, List.set_cons_zero, List.set_cons_succ]
        refine take_list (i := 13) (v := undef) rfl (by kernel_rfl) (by kernel_rfl) (by kernel_rfl) (fun _ _ _ h => h) (Or.inr ⟨by rfl, rfl⟩) (by assumption) ?_
        try simp only [Act.put, List.setIfInBounds_toArray, List.set_cons_zero, List.set_cons_succ]
        refine take_list (i := 14) (v := undef) rfl (by kernel_rfl) (by kernel_rfl) (by kernel_rfl) (fun _ _ _ h => h) (Or.inr ⟨by rfl, rfl⟩) (by assumption) ?_
        try simp only [Act.put, List.setIfInBounds_toArray, List.set_cons_zero, List.set_cons_succ]
        refine take_list (i := 15) (v := undef) rfl (by kernel_rfl) (by kernel_rfl) (by kernel_rfl) (fun _ _ _ h => h) (Or.inr ⟨by rfl, rfl⟩) (by assumption) ?_
        try simp only [Act.put, List.setIfInBounds_toArray, List.set_cons_zero, List.set_cons_succ]
        refine take_list (i := 16) (v := undef) rfl (by kernel_rfl) (by kernel_rfl) (by kernel_rfl) (fun _ _ _ h => h) (Or.inr ⟨by rfl, rfl⟩) (by assumption) ?_
        try simp only [Act.put, List.setIfInBounds_toArray, List.set_cons_zero, List.set_cons_succ]
        refine take_list (i := 17) (v := undef) rfl (by kernel_rfl) (by kernel_rfl) (by kernel_rfl) (fun _ _ _ h => h) (Or.inr ⟨by rfl, rfl⟩) (by assumption) ?_
        try simp only [Act.put, List.setIfInBounds_toArray, List.set_cons_zero, List.set_cons_succ]
        refine take_list (i := 18) (v := undef) rfl (by kernel_rfl) (by kernel_rfl) (by kernel_rfl) (fun _ _ _ h => h) (Or.inr ⟨by rfl, rfl⟩) (by assumption) ?_
        try simp only [Act.put, List.setIfInBounds_toArray, List.set_cons_zero, List.set_cons_succ]
        refine take_list (i := 19) (v := undef) rfl (by kernel_rfl) (by kernel_rfl) (by kernel_rfl) (fun _ _ _ h => h) (Or.inr ⟨by rfl, rfl⟩) (by assumption) ?_
        try simp only [Act.put, List.setIfInBounds_toArray, List.set_cons_zero, List.set_cons_succ]
        refine take_list (i := 20) (v := undef) rfl (by kernel_rfl) (by kernel_rfl) (by kernel_rfl) (fun _ _ _ h => h) (Or.inr ⟨by rfl, rfl⟩) (by assumption) ?_
        try simp only [Act.put, List.setIfInBounds_toArray, List.set_cons_zero, List.set_cons_succ]
        refine take_list (i := 21) (v := undef) rfl (by kernel_rfl) (by kernel_rfl) (by kernel_rfl) (fun _ _ _ h => h) (Or.inr ⟨by rfl, rfl⟩) (by assumption) ?_
        try simp only [Act.put, List.setIfInBounds_toArray, List.set_cons_zero, List.set_cons_succ]
        refine take_list (i := 22) (v := undef) rfl (by kernel_rfl) (by kernel_rfl) (by kernel_rfl) (fun _ _ _ h => h) (Or.inr ⟨by rfl, rfl⟩) (by assumption) ?_
        try simp only [Act.put, List.setIfInBounds_toArray, List.set_cons_zero, List.set_cons_succ]
        refine take_list (i := 23) (v := undef) rfl (by kernel_rfl) (by kernel_rfl) (by kernel_rfl) (fun _ _ _ h => h) (Or.inr ⟨by rfl, rfl⟩) (by assumption) ?_
        try simp only [Act.put, List.setIfInBounds_toArray, List.set_cons_zero, List.set_cons_succ]
        refine take_list (i := 24) (v := undef) rfl (by kernel_rfl) (by kernel_rfl) (by kernel_rfl) (fun _ _ _ h => h) (Or.inr ⟨by rfl, rfl⟩) (by assumption) ?_
        try simp only [Act.put, List.setIfInBounds_toArray, List.set_cons_zero, List.set_cons_succ]
        refine take_list (i := 25) (v := undef) rfl (by kernel_rfl) (by kernel_rfl) (by kernel_rfl) (fun _ _ _ h => h) (Or.inr ⟨by rfl, rfl⟩) (by assumption) ?_
        try simp only [Act.put, List.setIfInBounds_toArray, List.set_cons_zero, List.set_cons_succ]
        refine take_list (i := 26) (v := undef) rfl (by kernel_rfl) (by kernel_rfl) (by kernel_rfl) (fun _ _ _ h => h) (Or.inr ⟨by rfl, rfl⟩) (by assumption) ?_
        try simp only [Act.put, List.setIfInBounds_toArray, List.set_cons_zero, List.set_cons_succ]
        refine take_list (i := 27) (v := undef) rfl (by kernel_rfl) (by kernel_rfl) (by kernel_rfl) (fun _ _ _ h => h) (Or.inr ⟨by rfl, rfl⟩) (by assumption) ?_
        try simp only [Act.put, List.setIfInBounds_toArray, List.set_cons_zero, List.set_cons_succ]
        refine take_list (i := 28) (v := ?_) rfl (by kernel_rfl) (by kernel_rfl) (by kernel_rfl) (fun _ _ _ h => h) (Or.inl ⟨by rfl, ?_⟩) (by assumption) ?_
        rotate_left
        · (intro w hSw; (try dsimp only at hSw); go_simp; try (with_reducible rfl))
        try simp only [Act.put, List.setIfInBounds_toArray, List.set_cons_zero, List.set_cons_succ]
        refine wpAnyH_done (by kernel_rfl) ?_ _
        clear hHeld1
        have AZ := AY.out.call hb5
        obtain ⟨c0, c1, c2⟩ := AZ.at_
        have f0 := AZ.free 0
        have f1 := AZ.free 1
        have f2 := AZ.free 2
        have HP5 := Lib.hid (al_none AZ HF.out)
        clear hb5 hk0 AZ
        go_wp2
        obtain ⟨r0, r1, r2, hor⟩ := HP5.out
        exact bodyPost_ret (v := rtV rtNone none 0) (by simp [results, Tryz.results25, go_sem, rtV, rtNone, r0, r1, r2]) rfl hor
set_option maxRecDepth 100000 in
set_option maxHeartbeats 4000000 in
theorem alongP_any (p : Net) (h : Hd) (f : Int) (q : List Nat) (A : Option Addr) (c : Nat) (w : World) (hp : NetR w w.heap.size p h) (hg : Good p) (hpr : p.proto = 2) (hr : Rd w w.heap.size 1 A q.length (nats q)) (hc : q.length ≤ c) (hcm : c ≤ maxLen) (hq : WayQ p f q) :
    Calls Tryz.prog 25 #[netV p h, .int .i64 f, .slice A q.length c] w (OrPost (alongR p f q) w) := by
  have HG := Lib.hid hg
  have HQ := Lib.hid hq
  have HP := Lib.hid hp
  have HR := Lib.hid hr
  obtain ⟨hl1, hl12⟩ := hq.len hg
  have HLL := Lib.hid (bets_len p.links f q)
  have hb2 : (p.proto == 2) = true := by simpa using hpr
  obtain ⟨i0, hi0, hz0, hs0, hb0⟩ := info_parts Tryz.info_int
  have HAL := Lib.hid (show alongR p f q = if rtRightB ⟨2, 0, asL p q.tail⟩ && (decide (((asL p q.tail).length : Int) ≤ p.cap) && !decide (asOf p (q.headD 0 : Nat) ∈ asL p q.tail)) then ⟨2, 0, asL p q.tail⟩ else rtNone from by unfold alongR; rw [if_pos hpr])
  have HPL := Lib.hid (show (asL p q.tail).length = q.length - 1 from by simp [asL])
  have HPA : Hid (∀ i u, q[i + 1]? = some u → (asL p q.tail)[i]? = some (asOf p (u : Nat))) := Lib.hid (fun i u hu => by unfold asL; rw [List.getElem?_map, List.getElem?_tail, hu]; rfl)
  have hl16 := hg.l16
  obtain ⟨w1, hw1⟩ : ∃ w1, w1 = (w.alloc (.cells (netCells p h) 31)).alloc (.cells #[.int .i64 0, .int .i64 0, .slice none 0 0] 24) := ⟨_, rfl⟩
  have h01 : Below w.heap.size w w1 := by rw [hw1]; exact ((Below.refl _ _).alloc (Nat.le_refl _) _).alloc (by simp) _
  have HW1 := Lib.hid hw1
  have B1 := Lib.hid h01
  unfold netV netVal
  unfold netCells at hw1
  clear hg hq hp hr h01 hpr
  go_enter Tryz.func25, Tryz.ntmps25
  go_upto_region 1 with fail
  rw [← hw1]
  have PCx : w1.cell? ⟨w.heap.size, 0, none⟩ = some (.int .i64 p.proto) ∧ w1.cell? ⟨w.heap.size, 1, none⟩ = some (.int .i64 p.cap) ∧ w1.cell? ⟨w.heap.size, 2, none⟩ = some (.int .i64 p.k) ∧ w1.cell? ⟨w.heap.size, 3, none⟩ = some (.slice h.an p.nodes.length h.cn) ∧ w1.cell? ⟨w.heap.size, 4, none⟩ = some (.slice h.al p.links.length h.cl) ∧ w1.cell? ⟨w.heap.size, 5, none⟩ = some (.slice h.ad p.dests.length h.cd) ∧ w1.cell? ⟨w.heap.size, 6, none⟩ = some (.slice h.ac p.checks.length h.cc) := by
    have := (al_begin HW1.out (Below.refl _ _)).2
    exact ⟨cell_of_row _ _ 0 _ _ _ this, cell_of_row _ _ 1 _ _ _ this, cell_of_row _ _ 2 _ _ _ this, cell_of_row _ _ 3 _ _ _ this, cell_of_row _ _ 4 _ _ _ this, cell_of_row _ _ 5 _ _ _ this, cell_of_row _ _ 6 _ _ _ this⟩
  obtain ⟨g0, g1, g2, g3, g4, g5, g6⟩ := PCx
  clear hw1
  go_wp2_with fail
  refine (slinks_any p h f q A c w1 (HP.out.call B1.out) HG.out ((HR.out.below B1.out (Nat.le_refl _)).more B1.out.size) hc hcm hl12 hl1 HQ.out.nodup (HQ.out.lt HG.out) (fun i u v h1 h2 => by obtain ⟨j, x, jx⟩ := HQ.out.joint HG.out h1 h2; rw [jx.bet]; omega)).mono ?_
  rintro e w2 ⟨KA, kc, rfl, hko, hb2'⟩
  obtain ⟨ha, hpl⟩ := al_begin HW1.out hb2'
  have A2 := Lib.hid ha
  have PL := Lib.hid hpl
  have KO := Lib.hid hko
  have h21 := hb2'.size
  have HNE := Lib.hid (show ∀ g, blk KA = some g → g ≠ w.heap.size + 1 from fun g hg => by
    have h1 := hko.from_ g hg
    have h2 : w1.heap.size = w.heap.size + 1 + 1 := by rw [HW1.out]; simp
    omega)
  obtain ⟨c0, c1, c2⟩ := ha.at_
  have f0 := ha.free 0
  have p0 : w2.cell? ⟨w.heap.size, 0, none⟩ = some (.int .i64 p.proto) := cell_of_row w2 _ 0 _ _ _ hpl
  clear ha hpl hko hb2' g0 g1 g2 g3 g4 g5 g6 hcm
  go_upto_region 6 with fail
  have A3 := Lib.hid ((A2.out.kind 1).kind 2)
  generalize ((w2.setCell ⟨w.heap.size + 1, 0, none⟩ (.int .i64 1)).setCell ⟨w.heap.size + 1, 0, none⟩ (.int .i64 2)) = w3 at *
  clear c0 c1 c2 f0 p0
  generalize hK : betsL p.links f q = K at *
  have HKK := Lib.hid hK
  clear hK
  generalize hP : asL p q.tail = P at *
  have HPP := Lib.hid hP
  clear hP
  go_wp2_with fail
  go_loopw [27] (fun si wx => ∃ (i : Nat) (A2 : Option Addr) (c2 : Nat), i ≤ K.length ∧ si = .int .i64 i ∧ AlR w w2 wx ⟨2, 0, P.take i⟩ A2 c2) (fun si _ => K.length - (intOf si).toNat)
  case atStart => exact ⟨0, none, 0, by omega, rfl, A3.out⟩
  case round =>
    obtain ⟨i, Ap, cp, hi, rfl, hA⟩ := hrel
    have AX := Lib.hid hA
    clear hA
    by_cases hlt : i < K.length
    · obtain ⟨k, hk⟩ : ∃ k, K[i]? = some k := ⟨_, List.getElem?_eq_getElem hlt⟩
      obtain ⟨bk, ok_, rfl, -, hkc⟩ := (AX.out.m.rd KO.out.rd HNE.out).one (i := i) (x := .int .i64 k) (by simp [ints, hk])
      have hiq : i + 1 < q.length := by have := HLL.out; omega
      obtain ⟨v, hv⟩ : ∃ v, q[i + 1]? = some v := ⟨_, List.getElem?_eq_getElem hiq⟩
      have hvN := HQ.out.lt HG.out v (List.mem_of_getElem? hv)
      obtain ⟨x, hx⟩ : ∃ x, p.nodes[v]? = some x := ⟨_, List.getElem?_eq_getElem hvN⟩
      obtain ⟨nb, no, han, hnb, -, hnc⟩ := HP.out.nodes.node hx
      have HANX := Lib.hid han
      obtain ⟨wb, wo, hwa, hwb, hwc⟩ := HR.out.one (i := i + 1) (x := .int .i64 (v : Int)) (nats_at hv)
      have has : asOf p (v : Nat) = x.as_ := by simp [asOf, hx]
      have hPi : P[i]? = some x.as_ := by rw [HPA.out i v hv, has]
      have hlt' : (i : Int) < (K.length : Int) := by omega
      have hi0' : (0 : Int) ≤ (i : Int) := by omega
      have hi1' : (0 : Int) ≤ (i : Int) + 1 := by omega
      have hi2' : (i : Int) + 1 < (q.length : Int) := by omega
      have hiw : IntKind.i64.wrap ((i : Int) + 1) = (i : Int) + 1 := IntWalk.i64_in _ (by omega)
      have hv0 : (0 : Int) ≤ (v : Int) := by omega
      have hv1 : (v : Int) < (p.nodes.length : Int) := by omega
      have HC := Lib.hid (fun (wy : World) (a : AlM w w2 wy) => (show wy.cell? ⟨w.heap.size, 3, none⟩ = some (.slice (some ⟨nb, no, none⟩) p.nodes.length h.cn) ∧ wy.cell? ⟨wb, wo + (i + 1), none⟩ = some (.int .i64 (v : Int)) ∧ wy.cell? ⟨nb, no + v * 2 + 1, none⟩ = some (.int .i64 x.as_) from
        ⟨by
          have := (a.kept w.heap.size (by have := A2.out.lo; omega) (by omega)).trans PL.out
          have h1 : wy.cell? ⟨w.heap.size, 3, none⟩ = some (.slice h.an p.nodes.length h.cn) := cell_of_row wy _ 3 _ _ _ this
          rw [h1, han], (a.below.cell (p := ⟨wb, wo + (i + 1), none⟩) hwb).trans hwc, (a.below.cell (p := ⟨nb, no + v * 2 + 1, none⟩) hnb).trans hnc⟩))
      have HT : Hid (P.take (i + 1) = P.take i ++ [x.as_]) := Lib.hid (by rw [List.take_add_one, hPi]; rfl)
      have HTL : Hid ((P.take i).length = i) := Lib.hid (by rw [List.length_take]; have := HPL.out; omega)
      have p0 : wr.cell? ⟨w.heap.size, 0, none⟩ = some (.int .i64 p.proto) := cell_of_row wr _ 0 _ _ _ ((AX.out.m.kept w.heap.size (by have := A2.out.lo; omega) (by omega)).trans PL.out)
      subst hwa
      clear han hx hk hv hwc hnc hPi has
      go_upto_region 10 with fail
      generalize P.take i = Pi at *
      have AXD := Lib.hid AX.out.drew
      have AXA := Lib.hid ((AX.out.alloc (.cells #[.int .i64 x.as_] 3)).drew)
      obtain ⟨-, -, c2⟩ := AXD.out.at_
      obtain ⟨-, -, d2⟩ := AXA.out.at_
      have hm0 := AXD.out.m
      have hma := AXA.out.m
      have RN : Hid (Rd (wr.alloc (.cells #[.int .i64 x.as_] 3)).drew (wr.alloc (.cells #[.int .i64 x.as_] 3)).heap.size 1 (some ⟨wr.heap.size, 0, none⟩) 1 [.int .i64 x.as_]) :=
        Lib.hid (show Rd (wr.alloc (.cells #[.int .i64 x.as_] 3)) _ 1 _ 1 _ from Rd.new rfl rfl)
      have HPi : Pi.length ≤ 20 := by rw [HTL.out]; omega
      have HSZ : w2.heap.size ≤ (wr.alloc (.cells #[.int .i64 x.as_] 3)).drew.heap.size := hma.size
      clear hkc p0 hlt'
      refine wp_region_held_drew (S := (fun wy => wy.cell? ⟨w.heap.size, 3, none⟩ = some (.slice (some ⟨nb, no, none⟩) p.nodes.length h.cn) ∧ wy.cell? ⟨wb, wo + (i + 1), none⟩ = some (.int .i64 (v : Int)) ∧ wy.cell? ⟨nb, no + v * 2 + 1, none⟩ = some (.int .i64 x.as_))) (by kernel_rfl) (HC.out _ hm0) (fun hHeld0 => ?_)
      refine take_list (i := 0) (v := ?_) rfl (by kernel_rfl) (by kernel_rfl) (by kernel_rfl) (fun _ _ _ h => h) (Or.inl ⟨by rfl, ?_⟩) (by assumption) ?_
      rotate_left
      · (intro w hSw; (try dsimp only at hSw); go_simp; try (with_reducible rfl))
      try simp only [Act.put, List.setIfInBounds_toArray, List.set_cons_zero, List.set_cons_succ]
      refine take_list (i := 2) (v := ?_) rfl (by kernel_rfl) (by kernel_rfl) (by kernel_rfl) (fun _ _ _ h => h) (Or.inl ⟨by rfl, ?_⟩) (by assumption) ?_
      rotate_left
      · (intro w hSw; (try dsimp only at hSw); go_simp; try (with_reducible rfl))
      try simp only [Act.put, List.setIfInBounds_toArray, List.set_cons_zero, List.set_cons_succ]
      refine take_list (i := 3) (v := ?_) rfl (by kernel_rfl) (by kernel_rfl) (by kernel_rfl) (fun _ _ _ h => h) (Or.inl ⟨by rfl, ?_⟩) (by assumption) ?_
      rotate_left
      · (intro w hSw; (try dsimp only at hSw); go_simp; try (with_reducible rfl))
      try simp only [Act.put, List.setIfInBounds_toArray, List.set_cons_zero, List.set_cons_succ]
      refine take_list (i := 4) (v := ?_) rfl (by kernel_rfl) (by kernel_rfl) (by kernel_rfl) (fun _ _ _ h => h) (Or.inl ⟨by rfl, ?_⟩) (by assumption) ?_
      rotate_left
      · (intro w hSw; (try dsimp only at hSw); go_simp; try (with_reducible rfl))
      try simp only [Act.put, List.setIfInBounds_toArray, List.set_cons_zero, List.set_cons_succ]
      refine take_list (i := 5) (v := ?_) rfl (by kernel_rfl) (by kernel_rfl) (by kernel_rfl) (fun _ _ _ h => h) (Or.inl ⟨by rfl, ?_⟩) (by assumption) ?_
      rotate_left
      · (intro w hSw; (try dsimp only at hSw); go_simp; try (with_reducible rfl))
      try simp only [Act.put, List.setIfInBounds_toArray, List.set_cons_zero, List.set_cons_succ]
      refine take_list (i := 6) (v := ?_) rfl (by kernel_rfl) (by kernel_rfl) (by kernel_rfl) (fun _ _ _ h => h) (Or.inl ⟨by rfl, ?_⟩) (by assumption) ?_
      rotate_left
      · (intro w hSw; (try dsimp only at hSw); go_simp; try (with_reducible rfl))
      try simp only [Act.put, List.setIfInBounds_toArray, List.set_cons_zero, List.set_cons_succ]
      refine take_list (i := 7) (v := ?_) rfl (by kernel_rfl) (by kernel_rfl) (by kernel_rfl) (fun _ _ _ h => h) (Or.inl ⟨by rfl, ?_⟩) (by assumption) ?_
      rotate_left
      · (intro w hSw; (try dsimp only at hSw); go_simp; try (with_reducible rfl))
      try simp only [Act.put, List.setIfInBounds_toArray, List.set_cons_zero, List.set_cons_succ]
      refine take_list (i := 8) (v := ?_) rfl (by kernel_rfl) (by kernel_rfl) (by kernel_rfl) (fun _ _ _ h => h) (Or.inl ⟨by rfl, ?_⟩) (by assumption) ?_
      rotate_left
      · (intro w hSw; (try dsimp only at hSw); go_simp; try (with_reducible rfl))
      try simp only [Act.put, List.setIfInBounds_toArray, List.set_cons_zero, List.set_cons_succ]
      refine take_list (i := 9) (v := ?_) rfl (by kernel_rfl) (by kernel_rfl) (by kernel_rfl) (fun _ _ _ h => h) (Or.inl ⟨by rfl, ?_⟩) (by assumption) ?_
      rotate_left
      · (intro w hSw; (try dsimp only at hSw); go_simp; try (with_reducible rfl))
      try simp only [Act.put, List.setIfInBounds_toArray, List.set_cons_zero, List.set_cons_succ]
      refine take_list (i := 10) (v := ?_) rfl (by kernel_rfl) (by kernel_rfl) (by kernel_rfl) (fun _ _ _ h => h) (Or.inl ⟨by rfl, ?_⟩) (by assumption) ?_
      rotate_left
      · (intro w hSw; (try dsimp only at hSw); go_simp; try (with_reducible rfl))
      try simp only [Act.put, List.setIfInBounds_toArray, List.set_cons_zero, List.set_cons_succ]
      refine take_list (i := 11) (v := ?_) rfl (by kernel_rfl) (by kernel_rfl) (by kernel_rfl) (fun _ _ _ h => h) (Or.inl ⟨by rfl, ?_⟩) (by assumption) ?_
      rotate_left
      · (intro w hSw; (try dsimp only at hSw); go_simp; try (with_reducible rfl))
      try simp only [Act.put, List.setIfInBounds_toArray, List.set_cons_zero, List.set_cons_succ]
      refine wpAnyH_ready (rs := [1, 12]) (by kernel_rfl) (by simp) ?_
      refine cons_list rfl (fun K hK => ?_) (cons_list rfl (fun K hK => ?_) AllReadyH.nil)
      ·
        go_simp
        refine hK.out _ _ (HC.out _ (by first | assumption | exact AlM.set (by assumption) _ _)) (fun hHeld1 => ?_)
        clear hK K hHeld0
        try simp only [Act.put, List.setIfInBounds_toArray, List.set_cons_zero, List.set_cons_succ]
        refine wpAnyH_ready (rs := [12]) (by kernel_rfl) (by simp) ?_
        refine cons_list rfl (fun K hK => ?_) AllReadyH.nil
        go_simp
        refine hK.out _ _ (HC.out _ (by first | assumption | exact AlM.set (by assumption) _ _)) (fun hHeld2 => ?_)
        clear hK K hHeld1
        try simp only [Act.put, List.setIfInBounds_toArray, List.set_cons_zero, List.set_cons_succ]
        refine wpAnyH_ready (rs := [13]) (by kernel_rfl) (by simp) ?_
        refine cons_list rfl (fun K hK => ?_) AllReadyH.nil
        (refine step_app _ (by rfl) _ _ 22 (by rfl) w2.heap.size 3 i0 _ 1 8 Tryz.underlying22 hi0 hz0 hs0 hb0 rfl (by decide) Ap Pi.length cp (ints Pi) (by rfl) AXA.out.own _ 1 _ [.int .i64 x.as_] (by rfl) RN.out (by intro u hu; simp at hu; subst hu; rfl) (by unfold maxLen; omega) (by omega) HSZ ?_; intro A5 c5 w5 hown5 hgrow5 hblk5 _; have hm5 := hma.grown (by have := A2.out.lo; omega) hgrow5 AXA.out.own.from_; have hx5 := AXA.out.grow hgrow5; have e2 := cell_of_row w5 _ 2 _ _ _ hx5; have f2 := frozen_of_row w5 _ 2 _ _ hx5)
        refine hK.out _ _ (HC.out _ (by first | assumption | exact AlM.set (by assumption) _ _)) (fun hHeld3 => ?_)
        clear hK K hHeld2
        try simp only [Act.put, List.setIfInBounds_toArray, List.set_cons_zero, List.set_cons_succ]
        refine take_list (i := 14) (v := ?_) rfl (by kernel_rfl) (by kernel_rfl) (by kernel_rfl) (fun _ _ _ h => h) (Or.inl ⟨by rfl, ?_⟩) (by assumption) ?_
        rotate_left
        · (intro w hSw; (try dsimp only at hSw); go_simp; try (with_reducible rfl))
        try simp only [Act.put, List.setIfInBounds_toArray, List.set_cons_zero, List.set_cons_succ]
        refine wpAnyH_ready (rs := [15]) (by kernel_rfl) (by simp) ?_
        refine cons_list rfl (fun K hK => ?_) AllReadyH.nil
        go_simp
        refine hK.out _ _ (HC.out _ (by first | assumption | exact AlM.set (by assumption) _ _)) (fun hHeld4 => ?_)
        clear hK K hHeld3
        try simp only [Act.put, List.setIfInBounds_toArray, List.set_cons_zero, List.set_cons_succ]
        refine wpAnyH_done (by kernel_rfl) ?_ _
        clear hHeld4
        have A6 := Lib.hid (AXA.out.path (n := Pi.length + 1) (q := Pi ++ [x.as_]) hgrow5 (by simp) (by simpa [ints] using hown5))
        clear hown5 hgrow5 hblk5 hm5 hx5 e2 f2 c2 d2 hm0 hma
        go_wp2_with fail
        go_roundw
        case rel => exact ⟨i + 1, A5, c5, by omega, by go_num, by rw [HT.out]; exact A6.out⟩
        case measure => simp [intOf]; omega
      ·
        go_simp
        refine hK.out _ _ (HC.out _ (by first | assumption | exact AlM.set (by assumption) _ _)) (fun hHeld1 => ?_)
        clear hK K hHeld0
        try simp only [Act.put, List.setIfInBounds_toArray, List.set_cons_zero, List.set_cons_succ]
        refine wpAnyH_ready (rs := [1]) (by kernel_rfl) (by simp) ?_
        refine cons_list rfl (fun K hK => ?_) AllReadyH.nil
        go_simp
        refine hK.out _ _ (HC.out _ (by first | assumption | exact AlM.set (by assumption) _ _)) (fun hHeld2 => ?_)
        clear hK K hHeld1
        try simp only [Act.put, List.setIfInBounds_toArray, List.set_cons_zero, List.set_cons_succ]
        refine wpAnyH_ready (rs := [13]) (by kernel_rfl) (by simp) ?_
        refine cons_list rfl (fun K hK => ?_) AllReadyH.nil
        (refine step_app _ (by rfl) _ _ 22 (by rfl) w2.heap.size 3 i0 _ 1 8 Tryz.underlying22 hi0 hz0 hs0 hb0 rfl (by decide) Ap Pi.length cp (ints Pi) (by rfl) AXA.out.own _ 1 _ [.int .i64 x.as_] (by rfl) RN.out (by intro u hu; simp at hu; subst hu; rfl) (by unfold maxLen; omega) (by omega) HSZ ?_; intro A5 c5 w5 hown5 hgrow5 hblk5 _; have hm5 := hma.grown (by have := A2.out.lo; omega) hgrow5 AXA.out.own.from_; have hx5 := AXA.out.grow hgrow5; have e2 := cell_of_row w5 _ 2 _ _ _ hx5; have f2 := frozen_of_row w5 _ 2 _ _ hx5)
        refine hK.out _ _ (HC.out _ (by first | assumption | exact AlM.set (by assumption) _ _)) (fun hHeld3 => ?_)
        clear hK K hHeld2
        try simp only [Act.put, List.setIfInBounds_toArray, List.set_cons_zero, List.set_cons_succ]
        refine take_list (i := 14) (v := ?_) rfl (by kernel_rfl) (by kernel_rfl) (by kernel_rfl) (fun _ _ _ h => h) (Or.inl ⟨by rfl, ?_⟩) (by assumption) ?_
        rotate_left
        · (intro w hSw; (try dsimp only at hSw); go_simp; try (with_reducible rfl))
        try simp only [Act.put, List.setIfInBounds_toArray, List.set_cons_zero, List.set_cons_succ]
        refine wpAnyH_ready (rs := [15]) (by kernel_rfl) (by simp) ?_
        refine cons_list rfl (fun K hK => ?_) AllReadyH.nil
        go_simp
        refine hK.out _ _ (HC.out _ (by first | assumption | exact AlM.set (by assumption) _ _)) (fun hHeld4 => ?_)
        clear hK K hHeld3
        try simp only [Act.put, List.setIfInBounds_toArray, List.set_cons_zero, List.set_cons_succ]
        refine wpAnyH_done (by kernel_rfl) ?_ _
        clear hHeld4
        have A6 := Lib.hid (AXA.out.path (n := Pi.length + 1) (q := Pi ++ [x.as_]) hgrow5 (by simp) (by simpa [ints] using hown5))
        clear hown5 hgrow5 hblk5 hm5 hx5 e2 f2 c2 d2 hm0 hma
        go_wp2_with fail
        go_roundw
        case rel => exact ⟨i + 1, A5, c5, by omega, by go_num, by rw [HT.out]; exact A6.out⟩
        case measure => simp [intOf]; omega
    · have hie : i = K.length := by omega
      have hlt' : (K.length : Int) ≤ (i : Int) := by omega
      subst hie
      have AY : Hid (AlR w w2 wr ⟨2, 0, P⟩ Ap cp) := Lib.hid (by have := AX.out; rwa [List.take_of_length_le (by rw [HPL.out, HLL.out]; exact Nat.le_refl _)] at this)
      clear hlt
      go_upto_region 13 with fail
      obtain ⟨u0, hu0⟩ : ∃ u0, q[0]? = some u0 := ⟨_, List.getElem?_eq_getElem (by omega)⟩
      have hu0N := HQ.out.lt HG.out u0 (List.mem_of_getElem? hu0)
      obtain ⟨x, hx⟩ : ∃ x, p.nodes[u0]? = some x := ⟨_, List.getElem?_eq_getElem hu0N⟩
      obtain ⟨nb, no, han, hnb, -, hnc⟩ := HP.out.nodes.node hx
      obtain ⟨wb, wo, hwa, hwb, hwc⟩ := HR.out.one (i := 0) (x := .int .i64 (u0 : Int)) (nats_at hu0)
      rw [Nat.add_zero] at hwc
      have hhd : q.headD 0 = u0 := by cases q with | nil => simp at hu0 | cons a t => simpa using hu0
      have has : asOf p (q.headD 0 : Nat) = x.as_ := by rw [hhd]; simp [asOf, hx]
      have HANX := Lib.hid han
      rw [has] at HAL
      subst hwa
      have hu00 : (0 : Int) ≤ (u0 : Int) := by omega
      have hu01 : (u0 : Int) < (p.nodes.length : Int) := by omega
      have hq0 : 0 < q.length := by omega
      have HC := Lib.hid (fun (wy : World) (hb : Below wr.heap.size wr wy) => (show (wy.cell? ⟨w.heap.size + 1, 0, none⟩ = some (.int .i64 (⟨2, 0, P⟩ : Rt).kind) ∧ wy.cell? ⟨w.heap.size + 1, 1, none⟩ = some (.int .i64 (⟨2, 0, P⟩ : Rt).cost) ∧ wy.cell? ⟨w.heap.size + 1, 2, none⟩ = some (.slice Ap (⟨2, 0, P⟩ : Rt).path.length cp)) ∧ (wy.cell? ⟨w.heap.size, 0, none⟩ = some (.int .i64 p.proto) ∧ wy.cell? ⟨w.heap.size, 1, none⟩ = some (.int .i64 p.cap) ∧ wy.cell? ⟨w.heap.size, 3, none⟩ = some (.slice (some ⟨nb, no, none⟩) p.nodes.length h.cn)) ∧ wy.cell? ⟨wb, wo, none⟩ = some (.int .i64 (u0 : Int)) ∧ wy.cell? ⟨nb, no + u0 * 2 + 1, none⟩ = some (.int .i64 x.as_) from by
        have a := AY.out.call hb
        have hpx := (a.m.kept w.heap.size (by have := A2.out.lo; omega) (by omega)).trans PL.out
        have h3 : wy.cell? ⟨w.heap.size, 3, none⟩ = some (.slice h.an p.nodes.length h.cn) := cell_of_row wy _ 3 _ _ _ hpx
        exact ⟨a.at_, ⟨cell_of_row wy _ 0 _ _ _ hpx, cell_of_row wy _ 1 _ _ _ hpx, by rw [h3, han]⟩, (a.m.below.cell (p := ⟨wb, wo, none⟩) hwb).trans hwc, (a.m.below.cell (p := ⟨nb, no + u0 * 2 + 1, none⟩) hnb).trans hnc⟩))
      have RR := Lib.hid (fun (wy : World) (hb : Below wr.heap.size wr wy) => (show Calls Tryz.prog 24 #[.agg #[.int .i64 2, .int .i64 0, .slice Ap P.length cp]] wy fun e w' => e = .returned (.bool (rtRightB ⟨2, 0, P⟩)) ∧ Below wr.heap.size wr w' from
        (right_rt ⟨2, 0, P⟩ Ap cp wy (AY.out.call hb).rt).mono fun e w' ⟨e1, e2⟩ => ⟨e1, since_trans hb e2⟩))
      have HPlen : P.length ≤ 20 := by have := HPL.out; omega
      have CN := Lib.hid (fun (wy : World) (hb : Below wr.heap.size wr wy) => (show Calls Tryz.prog 46 #[.slice Ap P.length cp, .int .i64 x.as_] wy fun e w' => e = .returned (.bool (decide (x.as_ ∈ P))) ∧ wy = w' from
        containsI_any P x.as_ Ap cp _ wy (AY.out.call hb).rt.1 (by omega)))
      have hk0 : Below wr.heap.size wr wr.drew := below_drew (Below.refl _ _)
      clear hx hu0 han hnc hwc hhd has
      cases hrb : rtRightB ⟨2, 0, P⟩ with
      | false =>
        have HF : Hid (alongR p f q = rtNone) := Lib.hid (by rw [HAL.out, hrb]; rfl)
        rw [hrb] at RR
        clear hrb
        refine wp_region_held_drew (S := (fun wy => (wy.cell? ⟨w.heap.size + 1, 0, none⟩ = some (.int .i64 (⟨2, 0, P⟩ : Rt).kind) ∧ wy.cell? ⟨w.heap.size + 1, 1, none⟩ = some (.int .i64 (⟨2, 0, P⟩ : Rt).cost) ∧ wy.cell? ⟨w.heap.size + 1, 2, none⟩ = some (.slice Ap (⟨2, 0, P⟩ : Rt).path.length cp)) ∧ (wy.cell? ⟨w.heap.size, 0, none⟩ = some (.int .i64 p.proto) ∧ wy.cell? ⟨w.heap.size, 1, none⟩ = some (.int .i64 p.cap) ∧ wy.cell? ⟨w.heap.size, 3, none⟩ = some (.slice (some ⟨nb, no, none⟩) p.nodes.length h.cn)) ∧ wy.cell? ⟨wb, wo, none⟩ = some (.int .i64 (u0 : Int)) ∧ wy.cell? ⟨nb, no + u0 * 2 + 1, none⟩ = some (.int .i64 x.as_))) (by kernel_rfl) (HC.out _ hk0) (fun hHeld0 => ?_)
        refine take_list (i := 0) (v := ?_) rfl (by kernel_rfl) (by kernel_rfl) (by kernel_rfl) (fun _ _ _ h => h) (Or.inl ⟨by rfl, ?_⟩) (by assumption) ?_
        rotate_left
        · (intro w hSw; (try dsimp only at hSw); go_simp; try (with_reducible rfl))
        try simp only [Act.put, List.setIfInBounds_toArray, List.set_cons_zero, List.set_cons_succ]
        refine wpAnyH_ready (rs := [1]) (by kernel_rfl) (by simp) ?_
        refine cons_list rfl (fun K hK => ?_) AllReadyH.nil
        go_simp
        (go_at_call 24; refine (RR.out _ hk0).mono ?_; rintro e w5 ⟨rfl, hb5⟩)
        refine hK.out _ _ (HC.out _ (by assumption)) (fun hHeld1 => ?_)
        clear hK K hHeld0
        try simp only [Act.put, List.setIfInBounds_toArray, List.set_cons_zero, List.set_cons_succ]
        refine take_list (i := 2) (v := ?_) rfl (by kernel_rfl) (by kernel_rfl) (by kernel_rfl) (fun _ _ _ h => h) (Or.inl ⟨by rfl, ?_⟩) (by assumption) ?_
        rotate_left
        · (intro w hSw; (try dsimp only at hSw); go_simp; try (with_reducible rfl))
        try simp only [Act.put, List.setIfInBounds_toArray, List.set_cons_zero, List.set_cons_succ]
        refine take_list (i := 3) (v := ?_) rfl (by kernel_rfl) (by kernel_rfl) (by kernel_rfl) (fun _ _ _ h => h) (Or.inl ⟨by rfl, ?_⟩) (by assumption) ?_
        rotate_left
        · (intro w hSw; (try dsimp only at hSw); go_simp; try (with_reducible rfl))
        try simp only [Act.put, List.setIfInBounds_toArray, List.set_cons_zero, List.set_cons_succ]
        refine take_list (i := 4) (v := undef) rfl (by kernel_rfl) (by kernel_rfl) (by kernel_rfl) (fun _ _ _ h => h) (Or.inr ⟨by rfl, rfl⟩) (by assumption) ?_
        try simp only [Act.put, List.setIfInBounds_toArray, List.set_cons_zero, List.set_cons_succ]
        refine take_list (i := 5) (v := undef) rfl (by kernel_rfl) (by kernel_rfl) (by kernel_rfl) (fun _ _ _ h => h) (Or.inr ⟨by rfl, rfl⟩) (by assumption) ?_
        try simp only [Act.put, List.setIfInBounds_toArray, List.set_cons_zero, List.set_cons_succ]
        refine take_list (i := 6) (v := undef) rfl (by kernel_rfl) (by kernel_rfl) (by kernel_rfl) (fun _ _ _ h => h) (Or.inr ⟨by rfl, rfl⟩) (by assumption) ?_
        try simp only [Act.put, List.setIfInBounds_toArray, List.set_cons_zero, List.set_cons_succ]
        refine take_list (i := 7) (v := undef) rfl (by kernel_rfl) (by kernel_rfl) (by kernel_rfl) (fun _ _ _ h => h) (Or.inr ⟨by rfl, rfl⟩) (by assumption) ?_
        try simp only [Act.put, List.setIfInBounds_toArray, List.set_cons_zero, List.set_cons_succ]
        refine take_list (i := 8) (v := undef) rfl (by kernel_rfl) (by kernel_rfl) (by kernel_rfl) (fun _ _ _ h => h) (Or.inr ⟨by rfl, rfl⟩) (by assumption) ?_
        try simp only [Act.put, List.setIfInBounds_toArray, List.set_cons_zero, List.set_cons_succ]
        refine take_list (i := 9) (v := undef) rfl (by kernel_rfl) (by kernel_rfl) (by kernel_rfl) (fun _ _ _ h => h) (Or.inr ⟨by rfl, rfl⟩) (by assumption) ?_
        try simp only [Act.put, List.setIfInBounds_toArray, List.set_cons_zero, List.set_cons_succ]
        refine take_list (i := 10) (v := undef) rfl (by kernel_rfl) (by kernel_rfl) (by kernel_rfl) (fun _ _ _ h => h) (Or.inr ⟨by rfl, rfl⟩) (by assumption) ?_
        try simp only [Act.put, List.setIfInBounds_toArray, List.set_cons_zero, List.set_cons_succ]
        refine take_list (i := 11) (v := undef) rfl (by kernel_rfl) (by kernel_rfl) (by kernel_rfl) (fun _ _ _ h => h) (Or.inr ⟨by rfl, rfl⟩) (by assumption) ?_
        try simp only [Act.put, List.setIfInBounds_toArray, List.set_cons_zero, List.set_cons_succ]
        refine take_list (i := 12) (v := undef) rfl (by kernel_rfl) (by kernel_rfl) (by kernel_rfl) (fun _ _ _ h => h) (Or.inr ⟨by rfl, rfl⟩) (by assumption) ?_
        try simp only [Act.put, List.setIfInBounds_toArray, List.set_cons_zero, List.set_cons_succ]
        refine take_list (i := 13) (v := undef) rfl (by kernel_rfl) (by kernel_rfl) (by kernel_rfl) (fun _ _ _ h => h) (Or.inr ⟨by rfl, rfl⟩) (by assumption) ?_
        try simp only [Act.put, List.setIfInBounds_toArray, List.set_cons_zero, List.set_cons_succ]
        refine take_list (i := 14) (v := undef) rfl (by kernel_rfl) (by kernel_rfl) (by kernel_rfl) (fun _ _ _ h => h) (Or.inr ⟨by rfl, rfl⟩) (by assumption) ?_
        try simp only [Act.put, List.setIfInBounds_toArray, List.set_cons_zero, List.set_cons_succ]
        refine take_list (i := 15) (v := undef) rfl (by kernel_rfl) (by kernel_rfl) (by kernel_rfl) (fun _ _ _ h => h) (Or.inr ⟨by rfl, rfl⟩) (by assumption) ?_
        try simp only [Act.put, List.setIfInBounds_toArray, List.set_cons_zero, List.set_cons_succ]
        refine take_list (i := 16) (v := undef) rfl (by kernel_rfl) (by kernel_rfl) (by kernel_rfl) (fun _ _ _ h => h) (Or.inr ⟨by rfl, rfl⟩) (by assumption) ?_
        try simp only [Act.put, List.setIfInBounds_toArray, List.set_cons_zero, List.set_cons_succ]
        refine take_list (i := 17) (v := undef) rfl (by kernel_rfl) (by kernel_rfl) (by kernel_rfl) (fun _ _ _ h => h) (Or.inr ⟨by rfl, rfl⟩) (by assumption) ?_
        try simp only [Act.put, List.setIfInBounds_toArray, List.set_cons_zero, List.set_cons_succ]
        refine take_list (i := 18) (v := undef) rfl (by kernel_rfl) (by kernel_rfl) (by kernel_rfl) (fun _ _ _ h => h) (Or.inr ⟨by rfl, rfl⟩) (by assumption) ?_
        try simp only [Act.put, List.setIfInBounds_toArray, List.set_cons_zero, List.set_cons_succ]
        refine take_list (i := 19) (v := undef) rfl (by kernel_rfl) (by kernel_rfl) (by kernel_rfl) (fun _ _ _ h => h) (Or.inr ⟨by rfl, rfl⟩) (by assumption) ?_
        try simp only [Act.put, List.setIfInBounds_toArray, List.set_cons_zero, List.set_cons_succ]
        refine take_list (i := 20) (v := undef) rfl (by kernel_rfl) (by kernel_rfl) (by kernel_rfl) (fun _ _ _ h => h) (Or.inr ⟨by rfl, rfl⟩) (by assumption) ?_
        try simp only [Act.put, List.setIfInBounds_toArray, List.set_cons_zero, List.set_cons_succ]
        refine take_list (i := 21) (v := undef) rfl (by kernel_rfl) (by kernel_rfl) (by kernel_rfl) (fun _ _ _ h => h) (Or.inr ⟨by rfl, rfl⟩) (by assumption) ?_
        try simp only [Act.put, List.setIfInBounds_toArray, List.set_cons_zero, List.set_cons_succ]
        refine take_list (i := 22) (v := undef) rfl (by kernel_rfl) (by kernel_rfl) (by kernel_rfl) (fun _ _ _ h => h) (Or.inr ⟨by rfl, rfl⟩) (by assumption) ?_
        try simp only [Act.put, List.setIfInBounds_toArray, List.set_cons_zero, List.set_cons_succ]
        refine take_list (i := 23) (v := undef) rfl (by kernel_rfl) (by kernel_rfl) (by kernel_rfl) (fun _ _ _ h => h) (Or.inr ⟨by rfl, rfl⟩) (by assumption) ?_
        try simp only [Act.put, List.setIfInBounds_toArray, List.set_cons_zero, List.set_cons_succ]
        refine take_list (i := 24) (v := undef) rfl (by kernel_rfl) (by kernel_rfl) (by kernel_rfl) (fun _ _ _ h => h) (Or.inr ⟨by rfl, rfl⟩) (by assumption) ?_
        try simp only [Act.put, List.setIfInBounds_toArray, List.set_cons_zero, List.set_cons_succ]
        refine take_list (i := 25) (v := undef) rfl (by kernel_rfl) (by kernel_rfl) (by kernel_rfl) (fun _ _ _ h => h) (Or.inr ⟨by rfl, rfl⟩) (by assumption) ?_
        try simp only [Act.put, List.setIfInBounds_toArray, List.set_cons_zero, List.set_cons_succ]
        refine take_list (i := 26) (v := undef) rfl (by kernel_rfl) (by kernel_rfl) (by kernel_rfl) (fun _ _ _ h => h) (Or.inr ⟨by rfl, rfl⟩) (by assumption) ?_
        try simp only [Act.put, List.setIfInBounds_toArray, List.set_cons_zero, List.set_cons_succ]
        refine take_list (i := 27) (v := undef) rfl (by kernel_rfl) (by kernel_rfl) (by kernel_rfl) (fun _ _ _ h => h) (Or.inr ⟨by rfl, rfl⟩) (by assumption) ?_
        try simp only [Act.put, List.setIfInBounds_toArray, List.set_cons_zero, List.set_cons_succ]
        refine take_list (i := 28) (v := ?_) rfl (by kernel_rfl) (by kernel_rfl) (by kernel_rfl) (fun _ _ _ h => h) (Or.inl ⟨by rfl, ?_⟩) (by assumption) ?_
        rotate_left
        · (intro w hSw; (try dsimp only at hSw); go_simp; try (with_reducible rfl))
        try simp only [Act.put, List.setIfInBounds_toArray, List.set_cons_zero, List.set_cons_succ]
        refine wpAnyH_done (by kernel_rfl) ?_ _
        clear hHeld1
        have AZ := AY.out.call hb5
        obtain ⟨c0, c1, c2⟩ := AZ.at_
        have f0 := AZ.free 0
        have f1 := AZ.free 1
        have f2 := AZ.free 2
        have HP5 := Lib.hid (al_none AZ HF.out)
        clear hb5 hk0 AZ
        go_wp2
        obtain ⟨r0, r1, r2, hor⟩ := HP5.out
        exact bodyPost_ret (v := rtV rtNone none 0) (by simp [results, Tryz.results25, go_sem, rtV, rtNone, r0, r1, r2]) rfl hor
      | true =>
        rw [hrb] at RR
        by_cases hcap : (P.length : Int) ≤ p.cap
        · have hd1 : decide (p.cap < (P.length : Int)) = false := by simpa using hcap
          by_cases hin : x.as_ ∈ P
          · have HF : Hid (alongR p f q = rtNone) := Lib.hid (by rw [HAL.out, hrb]; simp [hin])
            rw [decide_eq_true hin] at CN
            clear hrb hin
            refine wp_region_held_drew (S := (fun wy => (wy.cell? ⟨w.heap.size + 1, 0, none⟩ = some (.int .i64 (⟨2, 0, P⟩ : Rt).kind) ∧ wy.cell? ⟨w.heap.size + 1, 1, none⟩ = some (.int .i64 (⟨2, 0, P⟩ : Rt).cost) ∧ wy.cell? ⟨w.heap.size + 1, 2, none⟩ = some (.slice Ap (⟨2, 0, P⟩ : Rt).path.length cp)) ∧ (wy.cell? ⟨w.heap.size, 0, none⟩ = some (.int .i64 p.proto) ∧ wy.cell? ⟨w.heap.size, 1, none⟩ = some (.int .i64 p.cap) ∧ wy.cell? ⟨w.heap.size, 3, none⟩ = some (.slice (some ⟨nb, no, none⟩) p.nodes.length h.cn)) ∧ wy.cell? ⟨wb, wo, none⟩ = some (.int .i64 (u0 : Int)) ∧ wy.cell? ⟨nb, no + u0 * 2 + 1, none⟩ = some (.int .i64 x.as_))) (by kernel_rfl) (HC.out _ hk0) (fun hHeld0 => ?_)
            refine take_list (i := 0) (v := ?_) rfl (by kernel_rfl) (by kernel_rfl) (by kernel_rfl) (fun _ _ _ h => h) (Or.inl ⟨by rfl, ?_⟩) (by assumption) ?_
            rotate_left
            · (intro w hSw; (try dsimp only at hSw); go_simp; try (with_reducible rfl))
            try simp only [Act.put, List.setIfInBounds_toArray, List.set_cons_zero, List.set_cons_succ]
            refine wpAnyH_ready (rs := [1]) (by kernel_rfl) (by simp) ?_
            refine cons_list rfl (fun K hK => ?_) AllReadyH.nil
            go_simp
            (go_at_call 24; refine (RR.out _ hk0).mono ?_; rintro e w5 ⟨rfl, hb5⟩)
            refine hK.out _ _ (HC.out _ (by assumption)) (fun hHeld1 => ?_)
            clear hK K hHeld0
            try simp only [Act.put, List.setIfInBounds_toArray, List.set_cons_zero, List.set_cons_succ]
            refine take_list (i := 2) (v := ?_) rfl (by kernel_rfl) (by kernel_rfl) (by kernel_rfl) (fun _ _ _ h => h) (Or.inl ⟨by rfl, ?_⟩) (by assumption) ?_
            rotate_left
            · (intro w hSw; (try dsimp only at hSw); go_simp; try (with_reducible rfl))
            try simp only [Act.put, List.setIfInBounds_toArray, List.set_cons_zero, List.set_cons_succ]
            refine take_list (i := 3) (v := ?_) rfl (by kernel_rfl) (by kernel_rfl) (by kernel_rfl) (fun _ _ _ h => h) (Or.inl ⟨by rfl, ?_⟩) (by assumption) ?_
            rotate_left
            · (intro w hSw; (try dsimp only at hSw); go_simp; try (with_reducible rfl))
            try simp only [Act.put, List.setIfInBounds_toArray, List.set_cons_zero, List.set_cons_succ]
            refine take_list (i := 4) (v := ?_) rfl (by kernel_rfl) (by kernel_rfl) (by kernel_rfl) (fun _ _ _ h => h) (Or.inl ⟨by rfl, ?_⟩) (by assumption) ?_
            rotate_left
            · (intro w hSw; (try dsimp only at hSw); go_simp; try (with_reducible rfl))
            try simp only [Act.put, List.setIfInBounds_toArray, List.set_cons_zero, List.set_cons_succ]
            refine take_list (i := 5) (v := ?_) rfl (by kernel_rfl) (by kernel_rfl) (by kernel_rfl) (fun _ _ _ h => h) (Or.inl ⟨by rfl, ?_⟩) (by assumption) ?_
            rotate_left
            · (intro w hSw; (try dsimp only at hSw); go_simp; try (with_reducible rfl))
            try simp only [Act.put, List.setIfInBounds_toArray, List.set_cons_zero, List.set_cons_succ]
            refine take_list (i := 6) (v := ?_) rfl (by kernel_rfl) (by kernel_rfl) (by kernel_rfl) (fun _ _ _ h => h) (Or.inl ⟨by rfl, ?_⟩) (by assumption) ?_
            rotate_left
            · (intro w hSw; (try dsimp only at hSw); go_simp; try (with_reducible rfl))
            try simp only [Act.put, List.setIfInBounds_toArray, List.set_cons_zero, List.set_cons_succ]
            refine take_list (i := 7) (v := ?_) rfl (by kernel_rfl) (by kernel_rfl) (by kernel_rfl) (fun _ _ _ h => h) (Or.inl ⟨by rfl, ?_⟩) (by assumption) ?_
            rotate_left
            · (intro w hSw; (try dsimp only at hSw); go_simp; try (with_reducible rfl))
            try simp only [Act.put, List.setIfInBounds_toArray, List.set_cons_zero, List.set_cons_succ]
            refine take_list (i := 8) (v := ?_) rfl (by kernel_rfl) (by kernel_rfl) (by kernel_rfl) (fun _ _ _ h => h) (Or.inl ⟨by rfl, ?_⟩) (by assumption) ?_
            rotate_left
            · (intro w hSw; (try dsimp only at hSw); go_simp; try (with_reducible rfl))
            try simp only [Act.put, List.setIfInBounds_toArray, List.set_cons_zero, List.set_cons_succ]
            refine take_list (i := 9) (v := ?_) rfl (by kernel_rfl) (by kernel_rfl) (by kernel_rfl) (fun _ _ _ h => h) (Or.inl ⟨by rfl, ?_⟩) (by assumption) ?_
            rotate_left
            · (intro w hSw; (try dsimp only at hSw); go_simp; try (with_reducible rfl))
            try simp only [Act.put, List.setIfInBounds_toArray, List.set_cons_zero, List.set_cons_succ]
            refine take_list (i := 10) (v := ?_) rfl (by kernel_rfl) (by kernel_rfl) (by kernel_rfl) (fun _ _ _ h => h) (Or.inl ⟨by rfl, ?_⟩) (by assumption) ?_
            rotate_left
            · (intro w hSw; (try dsimp only at hSw); go_simp; try (with_reducible rfl))
            try simp only [Act.put, List.setIfInBounds_toArray, List.set_cons_zero, List.set_cons_succ]
            refine take_list (i := 11) (v := ?_) rfl (by kernel_rfl) (by kernel_rfl) (by kernel_rfl) (fun _ _ _ h => h) (Or.inl ⟨by rfl, ?_⟩) (by assumption) ?_
            rotate_left
            · (intro w hSw; (try dsimp only at hSw); go_simp; try (with_reducible rfl))
            try simp only [Act.put, List.setIfInBounds_toArray, List.set_cons_zero, List.set_cons_succ]
            refine take_list (i := 12) (v := ?_) rfl (by kernel_rfl) (by kernel_rfl) (by kernel_rfl) (fun _ _ _ h => h) (Or.inl ⟨by rfl, ?_⟩) (by assumption) ?_
            rotate_left
            · (intro w hSw; (try dsimp only at hSw); go_simp; try (with_reducible rfl))
            try simp only [Act.put, List.setIfInBounds_toArray, List.set_cons_zero, List.set_cons_succ]
            refine take_list (i := 13) (v := ?_) rfl (by kernel_rfl) (by kernel_rfl) (by kernel_rfl) (fun _ _ _ h => h) (Or.inl ⟨by rfl, ?_⟩) (by assumption) ?_
            rotate_left
            · (intro w hSw; (try dsimp only at hSw); go_simp; try (with_reducible rfl))
            try simp only [Act.put, List.setIfInBounds_toArray, List.set_cons_zero, List.set_cons_succ]
            refine take_list (i := 14) (v := ?_) rfl (by kernel_rfl) (by kernel_rfl) (by kernel_rfl) (fun _ _ _ h => h) (Or.inl ⟨by rfl, ?_⟩) (by assumption) ?_
            rotate_left
            · (intro w hSw; (try dsimp only at hSw); go_simp; try (with_reducible rfl))
            try simp only [Act.put, List.setIfInBounds_toArray, List.set_cons_zero, List.set_cons_succ]
            refine take_list (i := 15) (v := ?_) rfl (by kernel_rfl) (by kernel_rfl) (by kernel_rfl) (fun _ _ _ h => h) (Or.inl ⟨by rfl, ?_⟩) (by assumption) ?_
            rotate_left
            · (intro w hSw; (try dsimp only at hSw); go_simp; try (with_reducible rfl))
            try simp only [Act.put, List.setIfInBounds_toArray, List.set_cons_zero, List.set_cons_succ]
            refine take_list (i := 16) (v := ?_) rfl (by kernel_rfl) (by kernel_rfl) (by kernel_rfl) (fun _ _ _ h => h) (Or.inl ⟨by rfl, ?_⟩) (by assumption) ?_
            rotate_left
            · (intro w hSw; (try dsimp only at hSw); go_simp; try (with_reducible rfl))
            try simp only [Act.put, List.setIfInBounds_toArray, List.set_cons_zero, List.set_cons_succ]
            refine take_list (i := 17) (v := ?_) rfl (by kernel_rfl) (by kernel_rfl) (by kernel_rfl) (fun _ _ _ h => h) (Or.inl ⟨by rfl, ?_⟩) (by assumption) ?_
            rotate_left
            · (intro w hSw; (try dsimp only at hSw); go_simp; try (with_reducible rfl))
            try simp only [Act.put, List.setIfInBounds_toArray, List.set_cons_zero, List.set_cons_succ]
            refine take_list (i := 18) (v := ?_) rfl (by kernel_rfl) (by kernel_rfl) (by kernel_rfl) (fun _ _ _ h => h) (Or.inl ⟨by rfl, ?_⟩) (by assumption) ?_
            rotate_left
            · (intro w hSw; (try dsimp only at hSw); go_simp; try (with_reducible rfl))
            try simp only [Act.put, List.setIfInBounds_toArray, List.set_cons_zero, List.set_cons_succ]
            refine take_list (i := 19) (v := ?_) rfl (by kernel_rfl) (by kernel_rfl) (by kernel_rfl) (fun _ _ _ h => h) (Or.inl ⟨by rfl, ?_⟩) (by assumption) ?_
            rotate_left
            · (intro w hSw; (try dsimp only at hSw); go_simp; try (with_reducible rfl))
            try simp only [Act.put, List.setIfInBounds_toArray, List.set_cons_zero, List.set_cons_succ]
            refine take_list (i := 20) (v := ?_) rfl (by kernel_rfl) (by kernel_rfl) (by kernel_rfl) (fun _ _ _ h => h) (Or.inl ⟨by rfl, ?_⟩) (by assumption) ?_
            rotate_left
            · (intro w hSw; (try dsimp only at hSw); go_simp; try (with_reducible rfl))
            try simp only [Act.put, List.setIfInBounds_toArray, List.set_cons_zero, List.set_cons_succ]
            refine take_list (i := 21) (v := ?_) rfl (by kernel_rfl) (by kernel_rfl) (by kernel_rfl) (fun _ _ _ h => h) (Or.inl ⟨by rfl, ?_⟩) (by assumption) ?_
            rotate_left
            · (intro w hSw; (try dsimp only at hSw); go_simp; try (with_reducible rfl))
            try simp only [Act.put, List.setIfInBounds_toArray, List.set_cons_zero, List.set_cons_succ]
            refine take_list (i := 22) (v := ?_) rfl (by kernel_rfl) (by kernel_rfl) (by kernel_rfl) (fun _ _ _ h => h) (Or.inl ⟨by rfl, ?_⟩) (by assumption) ?_
            rotate_left
            · (intro w hSw; (try dsimp only at hSw); go_simp; try (with_reducible rfl))
            try simp only [Act.put, List.setIfInBounds_toArray, List.set_cons_zero, List.set_cons_succ]
            refine take_list (i := 23) (v := ?_) rfl (by kernel_rfl) (by kernel_rfl) (by kernel_rfl) (fun _ _ _ h => h) (Or.inl ⟨by rfl, ?_⟩) (by assumption) ?_
            rotate_left
            · (intro w hSw; (try dsimp only at hSw); go_simp; try (with_reducible rfl))
            try simp only [Act.put, List.setIfInBounds_toArray, List.set_cons_zero, List.set_cons_succ]
            refine take_list (i := 24) (v := ?_) rfl (by kernel_rfl) (by kernel_rfl) (by kernel_rfl) (fun _ _ _ h => h) (Or.inl ⟨by rfl, ?_⟩) (by assumption) ?_
            rotate_left
            · (intro w hSw; (try dsimp only at hSw); go_simp; try (with_reducible rfl))
            try simp only [Act.put, List.setIfInBounds_toArray, List.set_cons_zero, List.set_cons_succ]
            refine wpAnyH_ready (rs := [25]) (by kernel_rfl) (by simp) ?_
            refine cons_list rfl (fun K hK => ?_) AllReadyH.nil
            go_simp
            (go_at_call 46; refine (CN.out _ hb5).mono ?_; rintro e w6 ⟨rfl, rfl⟩)
            refine hK.out _ _ (HC.out _ (by assumption)) (fun hHeld2 => ?_)
            clear hK K hHeld1
            try simp only [Act.put, List.setIfInBounds_toArray, List.set_cons_zero, List.set_cons_succ]
            refine take_list (i := 26) (v := ?_) rfl (by kernel_rfl) (by kernel_rfl) (by kernel_rfl) (fun _ _ _ h => h) (Or.inl ⟨by rfl, ?_⟩) (by assumption) ?_
            rotate_left
            · (intro w hSw; (try dsimp only at hSw); go_simp; try (with_reducible rfl))
            try simp only [Act.put, List.setIfInBounds_toArray, List.set_cons_zero, List.set_cons_succ]
            refine take_list (i := 27) (v := ?_) rfl (by kernel_rfl) (by kernel_rfl) (by kernel_rfl) (fun _ _ _ h => h) (Or.inl ⟨by rfl, ?_⟩) (by assumption) ?_
            rotate_left
            · (intro w hSw; (try dsimp only at hSw); go_simp; try (with_reducible rfl))
            try simp only [Act.put, List.setIfInBounds_toArray, List.set_cons_zero, List.set_cons_succ]
            refine take_list (i := 28) (v := ?_) rfl (by kernel_rfl) (by kernel_rfl) (by kernel_rfl) (fun _ _ _ h => h) (Or.inl ⟨by rfl, ?_⟩) (by assumption) ?_
            rotate_left
            · (intro w hSw; (try dsimp only at hSw); go_simp; try (with_reducible rfl))
            try simp only [Act.put, List.setIfInBounds_toArray, List.set_cons_zero, List.set_cons_succ]
            refine wpAnyH_done (by kernel_rfl) ?_ _
            clear hHeld2
            have AZ := AY.out.call hb5
            obtain ⟨c0, c1, c2⟩ := AZ.at_
            have f0 := AZ.free 0
            have f1 := AZ.free 1
            have f2 := AZ.free 2
            have HP5 := Lib.hid (al_none AZ HF.out)
            clear hb5 hk0 AZ
            go_wp2
            obtain ⟨r0, r1, r2, hor⟩ := HP5.out
            exact bodyPost_ret (v := rtV rtNone none 0) (by simp [results, Tryz.results25, go_sem, rtV, rtNone, r0, r1, r2]) rfl hor

          · have HF : Hid (alongR p f q = ⟨2, 0, P⟩) := Lib.hid (by rw [HAL.out, hrb]; simp [hin, hcap])
            rw [decide_eq_false hin] at CN
            clear hrb hin
            refine wp_region_held_drew (S := (fun wy => (wy.cell? ⟨w.heap.size + 1, 0, none⟩ = some (.int .i64 (⟨2, 0, P⟩ : Rt).kind) ∧ wy.cell? ⟨w.heap.size + 1, 1, none⟩ = some (.int .i64 (⟨2, 0, P⟩ : Rt).cost) ∧ wy.cell? ⟨w.heap.size + 1, 2, none⟩ = some (.slice Ap (⟨2, 0, P⟩ : Rt).path.length cp)) ∧ (wy.cell? ⟨w.heap.size, 0, none⟩ = some (.int .i64 p.proto) ∧ wy.cell? ⟨w.heap.size, 1, none⟩ = some (.int .i64 p.cap) ∧ wy.cell? ⟨w.heap.size, 3, none⟩ = some (.slice (some ⟨nb, no, none⟩) p.nodes.length h.cn)) ∧ wy.cell? ⟨wb, wo, none⟩ = some (.int .i64 (u0 : Int)) ∧ wy.cell? ⟨nb, no + u0 * 2 + 1, none⟩ = some (.int .i64 x.as_))) (by kernel_rfl) (HC.out _ hk0) (fun hHeld0 => ?_)
            refine take_list (i := 0) (v := ?_) rfl (by kernel_rfl) (by kernel_rfl) (by kernel_rfl) (fun _ _ _ h => h) (Or.inl ⟨by rfl, ?_⟩) (by assumption) ?_
            rotate_left
            · (intro w hSw; (try dsimp only at hSw); go_simp; try (with_reducible rfl))
            try simp only [Act.put, List.setIfInBounds_toArray, List.set_cons_zero, List.set_cons_succ]
            refine wpAnyH_ready (rs := [1]) (by kernel_rfl) (by simp) ?_
            refine cons_list rfl (fun K hK => ?_) AllReadyH.nil
            go_simp
            (go_at_call 24; refine (RR.out _ hk0).mono ?_; rintro e w5 ⟨rfl, hb5⟩)
            refine hK.out _ _ (HC.out _ (by assumption)) (fun hHeld1 => ?_)
            clear hK K hHeld0
            try simp only [Act.put, List.setIfInBounds_toArray, List.set_cons_zero, List.set_cons_succ]
            refine take_list (i := 2) (v := ?_) rfl (by kernel_rfl) (by kernel_rfl) (by kernel_rfl) (fun _ _ _ h => h) (Or.inl ⟨by rfl, ?_⟩) (by assumption) ?_
            rotate_left
            · (intro w hSw; (try dsimp only at hSw); go_simp; try (with_reducible rfl))
            try simp only [Act.put, List.setIfInBounds_toArray, List.set_cons_zero, List.set_cons_succ]
            refine take_list (i := 3) (v := ?_) rfl (by kernel_rfl) (by kernel_rfl) (by kernel_rfl) (fun _ _ _ h => h) (Or.inl ⟨by rfl, ?_⟩) (by assumption) ?_
            rotate_left
            · (intro w hSw; (try dsimp only at hSw); go_simp; try (with_reducible rfl))
            try simp only [Act.put, List.setIfInBounds_toArray, List.set_cons_zero, List.set_cons_succ]
            refine take_list (i := 4) (v := ?_) rfl (by kernel_rfl) (by kernel_rfl) (by kernel_rfl) (fun _ _ _ h => h) (Or.inl ⟨by rfl, ?_⟩) (by assumption) ?_
            rotate_left
            · (intro w hSw; (try dsimp only at hSw); go_simp; try (with_reducible rfl))
            try simp only [Act.put, List.setIfInBounds_toArray, List.set_cons_zero, List.set_cons_succ]
            refine take_list (i := 5) (v := ?_) rfl (by kernel_rfl) (by kernel_rfl) (by kernel_rfl) (fun _ _ _ h => h) (Or.inl ⟨by rfl, ?_⟩) (by assumption) ?_
            rotate_left
            · (intro w hSw; (try dsimp only at hSw); go_simp; try (with_reducible rfl))
            try simp only [Act.put, List.setIfInBounds_toArray, List.set_cons_zero, List.set_cons_succ]
            refine take_list (i := 6) (v := ?_) rfl (by kernel_rfl) (by kernel_rfl) (by kernel_rfl) (fun _ _ _ h => h) (Or.inl ⟨by rfl, ?_⟩) (by assumption) ?_
            rotate_left
            · (intro w hSw; (try dsimp only at hSw); go_simp; try (with_reducible rfl))
            try simp only [Act.put, List.setIfInBounds_toArray, List.set_cons_zero, List.set_cons_succ]
            refine take_list (i := 7) (v := ?_) rfl (by kernel_rfl) (by kernel_rfl) (by kernel_rfl) (fun _ _ _ h => h) (Or.inl ⟨by rfl, ?_⟩) (by assumption) ?_
            rotate_left
            · (intro w hSw; (try dsimp only at hSw); go_simp; try (with_reducible rfl))
            try simp only [Act.put, List.setIfInBounds_toArray, List.set_cons_zero, List.set_cons_succ]
            refine take_list (i := 8) (v := ?_) rfl (by kernel_rfl) (by kernel_rfl) (by kernel_rfl) (fun _ _ _ h => h) (Or.inl ⟨by rfl, ?_⟩) (by assumption) ?_
            rotate_left
            · (intro w hSw; (try dsimp only at hSw); go_simp; try (with_reducible rfl))
            try simp only [Act.put, List.setIfInBounds_toArray, List.set_cons_zero, List.set_cons_succ]
            refine take_list (i := 9) (v := ?_) rfl (by kernel_rfl) (by kernel_rfl) (by kernel_rfl) (fun _ _ _ h => h) (Or.inl ⟨by rfl, ?_⟩) (by assumption) ?_
            rotate_left
            · (intro w hSw; (try dsimp only at hSw); go_simp; try (with_reducible rfl))
            try simp only [Act.put, List.setIfInBounds_toArray, List.set_cons_zero, List.set_cons_succ]
            refine take_list (i := 10) (v := ?_) rfl (by kernel_rfl) (by kernel_rfl) (by kernel_rfl) (fun _ _ _ h => h) (Or.inl ⟨by rfl, ?_⟩) (by assumption) ?_
            rotate_left
            · (intro w hSw; (try dsimp only at hSw); go_simp; try (with_reducible rfl))
            try simp only [Act.put, List.setIfInBounds_toArray, List.set_cons_zero, List.set_cons_succ]
            refine take_list (i := 11) (v := ?_) rfl (by kernel_rfl) (by kernel_rfl) (by kernel_rfl) (fun _ _ _ h => h) (Or.inl ⟨by rfl, ?_⟩) (by assumption) ?_
            rotate_left
            · (intro w hSw; (try dsimp only at hSw); go_simp; try (with_reducible rfl))
            try simp only [Act.put, List.setIfInBounds_toArray, List.set_cons_zero, List.set_cons_succ]
            refine take_list (i := 12) (v := ?_) rfl (by kernel_rfl) (by kernel_rfl) (by kernel_rfl) (fun _ _ _ h => h) (Or.inl ⟨by rfl, ?_⟩) (by assumption) ?_
            rotate_left
            · (intro w hSw; (try dsimp only at hSw); go_simp; try (with_reducible rfl))
            try simp only [Act.put, List.setIfInBounds_toArray, List.set_cons_zero, List.set_cons_succ]
            refine take_list (i := 13) (v := ?_) rfl (by kernel_rfl) (by kernel_rfl) (by kernel_rfl) (fun _ _ _ h => h) (Or.inl ⟨by rfl, ?_⟩) (by assumption) ?_
            rotate_left
            · (intro w hSw; (try dsimp only at hSw); go_simp; try (with_reducible rfl))
            try simp only [Act.put, List.setIfInBounds_toArray, List.set_cons_zero, List.set_cons_succ]
            refine take_list (i := 14) (v := ?_) rfl (by kernel_rfl) (by kernel_rfl) (by kernel_rfl) (fun _ _ _ h => h) (Or.inl ⟨by rfl, ?_⟩) (by assumption) ?_
            rotate_left
            · (intro w hSw; (try dsimp only at hSw); go_simp; try (with_reducible rfl))
            try simp only [Act.put, List.setIfInBounds_toArray, List.set_cons_zero, List.set_cons_succ]
            refine take_list (i := 15) (v := ?_) rfl (by kernel_rfl) (by kernel_rfl) (by kernel_rfl) (fun _ _ _ h => h) (Or.inl ⟨by rfl, ?_⟩) (by assumption) ?_
            rotate_left
            · (intro w hSw; (try dsimp only at hSw); go_simp; try (with_reducible rfl))
            try simp only [Act.put, List.setIfInBounds_toArray, List.set_cons_zero, List.set_cons_succ]
            refine take_list (i := 16) (v := ?_) rfl (by kernel_rfl) (by kernel_rfl) (by kernel_rfl) (fun _ _ _ h => h) (Or.inl ⟨by rfl, ?_⟩) (by assumption) ?_
            rotate_left
            · (intro w hSw; (try dsimp only at hSw); go_simp; try (with_reducible rfl))
            try simp only [Act.put, List.setIfInBounds_toArray, List.set_cons_zero, List.set_cons_succ]
            refine take_list (i := 17) (v := ?_) rfl (by kernel_rfl) (by kernel_rfl) (by kernel_rfl) (fun _ _ _ h => h) (Or.inl ⟨by rfl, ?_⟩) (by assumption) ?_
            rotate_left
            · (intro w hSw; (try dsimp only at hSw); go_simp; try (with_reducible rfl))
            try simp only [Act.put, List.setIfInBounds_toArray, List.set_cons_zero, List.set_cons_succ]
            refine take_list (i := 18) (v := ?_) rfl (by kernel_rfl) (by kernel_rfl) (by kernel_rfl) (fun _ _ _ h => h) (Or.inl ⟨by rfl, ?_⟩) (by assumption) ?_
            rotate_left
            · (intro w hSw; (try dsimp only at hSw); go_simp; try (with_reducible rfl))
            try simp only [Act.put, List.setIfInBounds_toArray, List.set_cons_zero, List.set_cons_succ]
            refine take_list (i := 19) (v := ?_) rfl (by kernel_rfl) (by kernel_rfl) (by kernel_rfl) (fun _ _ _ h => h) (Or.inl ⟨by rfl, ?_⟩) (by assumption) ?_
            rotate_left
            · (intro w hSw; (try dsimp only at hSw); go_simp; try (with_reducible rfl))
            try simp only [Act.put, List.setIfInBounds_toArray, List.set_cons_zero, List.set_cons_succ]
            refine take_list (i := 20) (v := ?_) rfl (by kernel_rfl) (by kernel_rfl) (by kernel_rfl) (fun _ _ _ h => h) (Or.inl ⟨by rfl, ?_⟩) (by assumption) ?_
            rotate_left
            · (intro w hSw; (try dsimp only at hSw); go_simp; try (with_reducible rfl))
            try simp only [Act.put, List.setIfInBounds_toArray, List.set_cons_zero, List.set_cons_succ]
            refine take_list (i := 21) (v := ?_) rfl (by kernel_rfl) (by kernel_rfl) (by kernel_rfl) (fun _ _ _ h => h) (Or.inl ⟨by rfl, ?_⟩) (by assumption) ?_
            rotate_left
            · (intro w hSw; (try dsimp only at hSw); go_simp; try (with_reducible rfl))
            try simp only [Act.put, List.setIfInBounds_toArray, List.set_cons_zero, List.set_cons_succ]
            refine take_list (i := 22) (v := ?_) rfl (by kernel_rfl) (by kernel_rfl) (by kernel_rfl) (fun _ _ _ h => h) (Or.inl ⟨by rfl, ?_⟩) (by assumption) ?_
            rotate_left
            · (intro w hSw; (try dsimp only at hSw); go_simp; try (with_reducible rfl))
            try simp only [Act.put, List.setIfInBounds_toArray, List.set_cons_zero, List.set_cons_succ]
            refine take_list (i := 23) (v := ?_) rfl (by kernel_rfl) (by kernel_rfl) (by kernel_rfl) (fun _ _ _ h => h) (Or.inl ⟨by rfl, ?_⟩) (by assumption) ?_
            rotate_left
            · (intro w hSw; (try dsimp only at hSw); go_simp; try (with_reducible rfl))
            try simp only [Act.put, List.setIfInBounds_toArray, List.set_cons_zero, List.set_cons_succ]
            refine take_list (i := 24) (v := ?_) rfl (by kernel_rfl) (by kernel_rfl) (by kernel_rfl) (fun _ _ _ h => h) (Or.inl ⟨by rfl, ?_⟩) (by assumption) ?_
            rotate_left
            · (intro w hSw; (try dsimp only at hSw); go_simp; try (with_reducible rfl))
            try simp only [Act.put, List.setIfInBounds_toArray, List.set_cons_zero, List.set_cons_succ]
            refine wpAnyH_ready (rs := [25]) (by kernel_rfl) (by simp) ?_
            refine cons_list rfl (fun K hK => ?_) AllReadyH.nil
            go_simp
            (go_at_call 46; refine (CN.out _ hb5).mono ?_; rintro e w6 ⟨rfl, rfl⟩)
            refine hK.out _ _ (HC.out _ (by assumption)) (fun hHeld2 => ?_)
            clear hK K hHeld1
            try simp only [Act.put, List.setIfInBounds_toArray, List.set_cons_zero, List.set_cons_succ]
            refine take_list (i := 26) (v := ?_) rfl (by kernel_rfl) (by kernel_rfl) (by kernel_rfl) (fun _ _ _ h => h) (Or.inl ⟨by rfl, ?_⟩) (by assumption) ?_
            rotate_left
            · (intro w hSw; (try dsimp only at hSw); go_simp; try (with_reducible rfl))
            try simp only [Act.put, List.setIfInBounds_toArray, List.set_cons_zero, List.set_cons_succ]
            refine take_list (i := 27) (v := ?_) rfl (by kernel_rfl) (by kernel_rfl) (by kernel_rfl) (fun _ _ _ h => h) (Or.inl ⟨by rfl, ?_⟩) (by assumption) ?_
            rotate_left
            · (intro w hSw; (try dsimp only at hSw); go_simp; try (with_reducible rfl))
            try simp only [Act.put, List.setIfInBounds_toArray, List.set_cons_zero, List.set_cons_succ]
            refine take_list (i := 28) (v := ?_) rfl (by kernel_rfl) (by kernel_rfl) (by kernel_rfl) (fun _ _ _ h => h) (Or.inl ⟨by rfl, ?_⟩) (by assumption) ?_
            rotate_left
            · (intro w hSw; (try dsimp only at hSw); go_simp; try (with_reducible rfl))
            try simp only [Act.put, List.setIfInBounds_toArray, List.set_cons_zero, List.set_cons_succ]
            refine wpAnyH_done (by kernel_rfl) ?_ _
            clear hHeld2
            obtain ⟨r0, r1, r2⟩ := (AY.out.call hb5).at_
            have HP5 : Hid (OrPost (alongR p f q) w (.returned (rtV ⟨2, 0, P⟩ Ap cp)) w5) := Lib.hid (by
              rw [HF.out]
              have := AY.out.call hb5
              exact ⟨Ap, cp, rfl, .inl (this.own.more (by have := this.lo; omega)), this.m.below⟩)
            clear hb5 hk0
            go_wp2
            exact bodyPost_ret (v := rtV ⟨2, 0, P⟩ Ap cp) (by simp [results, Tryz.results25, go_sem, rtV, r0, r1, r2]) rfl HP5.out
        · have HF : Hid (alongR p f q = rtNone) := Lib.hid (by rw [HAL.out, hrb]; simp [hcap])
          clear hrb
          have hcap' : decide (p.cap < (P.length : Int)) = true := by simp; omega
          clear hcap
          refine wp_region_held_drew (S := (fun wy => (wy.cell? ⟨w.heap.size + 1, 0, none⟩ = some (.int .i64 (⟨2, 0, P⟩ : Rt).kind) ∧ wy.cell? ⟨w.heap.size + 1, 1, none⟩ = some (.int .i64 (⟨2, 0, P⟩ : Rt).cost) ∧ wy.cell? ⟨w.heap.size + 1, 2, none⟩ = some (.slice Ap (⟨2, 0, P⟩ : Rt).path.length cp)) ∧ (wy.cell? ⟨w.heap.size, 0, none⟩ = some (.int .i64 p.proto) ∧ wy.cell? ⟨w.heap.size, 1, none⟩ = some (.int .i64 p.cap) ∧ wy.cell? ⟨w.heap.size, 3, none⟩ = some (.slice (some ⟨nb, no, none⟩) p.nodes.length h.cn)) ∧ wy.cell? ⟨wb, wo, none⟩ = some (.int .i64 (u0 : Int)) ∧ wy.cell? ⟨nb, no + u0 * 2 + 1, none⟩ = some (.int .i64 x.as_))) (by kernel_rfl) (HC.out _ hk0) (fun hHeld0 => ?_)
          refine take_list (i := 0) (v := ?_) rfl (by kernel_rfl) (by kernel_rfl) (by kernel_rfl) (fun _ _ _ h => h) (Or.inl ⟨by rfl, ?_⟩) (by assumption) ?_
          rotate_left
          · (intro w hSw; (try dsimp only at hSw); go_simp; try (with_reducible rfl))
          try simp only [Act.put, List.setIfInBounds_toArray, List.set_cons_zero, List.set_cons_succ]
          refine wpAnyH_ready (rs := [1]) (by kernel_rfl) (by simp) ?_
          refine cons_list rfl (fun K hK => ?_) AllReadyH.nil
          go_simp
          (go_at_call 24; refine (RR.out _ hk0).mono ?_; rintro e w5 ⟨rfl, hb5⟩)
          refine hK.out _ _ (HC.out _ (by assumption)) (fun hHeld1 => ?_)
          clear hK K hHeld0
          try simp only [Act.put, List.setIfInBounds_toArray, List.set_cons_zero, List.set_cons_succ]
          refine take_list (i := 2) (v := ?_) rfl (by kernel_rfl) (by kernel_rfl) (by kernel_rfl) (fun _ _ _ h => h) (Or.inl ⟨by rfl, ?_⟩) (by assumption) ?_
          rotate_left
          · (intro w hSw; (try dsimp only at hSw); go_simp; try (with_reducible rfl))
          try simp only [Act.put, List.setIfInBounds_toArray, List.set_cons_zero, List.set_cons_succ]
          refine take_list (i := 3) (v := ?_) rfl (by kernel_rfl) (by kernel_rfl) (by kernel_rfl) (fun _ _ _ h => h) (Or.inl ⟨by rfl, ?_⟩) (by assumption) ?_
          rotate_left
          · (intro w hSw; (try dsimp only at hSw); go_simp; try (with_reducible rfl))
          try simp only [Act.put, List.setIfInBounds_toArray, List.set_cons_zero, List.set_cons_succ]
          refine take_list (i := 4) (v := ?_) rfl (by kernel_rfl) (by kernel_rfl) (by kernel_rfl) (fun _ _ _ h => h) (Or.inl ⟨by rfl, ?_⟩) (by assumption) ?_
          rotate_left
          · (intro w hSw; (try dsimp only at hSw); go_simp; try (with_reducible rfl))
          try simp only [Act.put, List.setIfInBounds_toArray, List.set_cons_zero, List.set_cons_succ]
          refine take_list (i := 5) (v := ?_) rfl (by kernel_rfl) (by kernel_rfl) (by kernel_rfl) (fun _ _ _ h => h) (Or.inl ⟨by rfl, ?_⟩) (by assumption) ?_
          rotate_left
          · (intro w hSw; (try dsimp only at hSw); go_simp; try (with_reducible rfl))
          try simp only [Act.put, List.setIfInBounds_toArray, List.set_cons_zero, List.set_cons_succ]
          refine take_list (i := 6) (v := ?_) rfl (by kernel_rfl) (by kernel_rfl) (by kernel_rfl) (fun _ _ _ h => h) (Or.inl ⟨by rfl, ?_⟩) (by assumption) ?_
          rotate_left
          · (intro w hSw; (try dsimp only at hSw); go_simp; try (with_reducible rfl))
          try simp only [Act.put, List.setIfInBounds_toArray, List.set_cons_zero, List.set_cons_succ]
          refine take_list (i := 7) (v := ?_) rfl (by kernel_rfl) (by kernel_rfl) (by kernel_rfl) (fun _ _ _ h => h) (Or.inl ⟨by rfl, ?_⟩) (by assumption) ?_
          rotate_left
          · (intro w hSw; (try dsimp only at hSw); go_simp; try (with_reducible rfl))
          try simp only [Act.put, List.setIfInBounds_toArray, List.set_cons_zero, List.set_cons_succ]
          refine take_list (i := 8) (v := ?_) rfl (by kernel_rfl) (by kernel_rfl) (by kernel_rfl) (fun _ _ _ h => h) (Or.inl ⟨by rfl, ?_⟩) (by assumption) ?_
          rotate_left
          · (intro w hSw; (try dsimp only at hSw); go_simp; try (with_reducible rfl))
          try simp only [Act.put, List.setIfInBounds_toArray, List.set_cons_zero, List.set_cons_succ]
          refine take_list (i := 9) (v := ?_) rfl (by kernel_rfl) (by kernel_rfl) (by kernel_rfl) (fun _ _ _ h => h) (Or.inl ⟨by rfl, ?_⟩) (by assumption) ?_
          rotate_left
          · (intro w hSw; (try dsimp only at hSw); go_simp; try (with_reducible rfl))
          try simp only [Act.put, List.setIfInBounds_toArray, List.set_cons_zero, List.set_cons_succ]
          refine take_list (i := 10) (v := ?_) rfl (by kernel_rfl) (by kernel_rfl) (by kernel_rfl) (fun _ _ _ h => h) (Or.inl ⟨by rfl, ?_⟩) (by assumption) ?_
          rotate_left
          · (intro w hSw; (try dsimp only at hSw); go_simp; try (with_reducible rfl))
          try simp only [Act.put, List.setIfInBounds_toArray, List.set_cons_zero, List.set_cons_succ]
          refine take_list (i := 11) (v := ?_) rfl (by kernel_rfl) (by kernel_rfl) (by kernel_rfl) (fun _ _ _ h => h) (Or.inl ⟨by rfl, ?_⟩) (by assumption) ?_
          rotate_left
          · (intro w hSw; (try dsimp only at hSw); go_simp; try (with_reducible rfl))
          try simp only [Act.put, List.setIfInBounds_toArray, List.set_cons_zero, List.set_cons_succ]
          refine take_list (i := 12) (v := ?_) rfl (by kernel_rfl) (by kernel_rfl) (by kernel_rfl) (fun _ _ _ h => h) (Or.inl ⟨by rfl, ?_⟩) (by assumption) ?_
          rotate_left
          · (intro w hSw; (try dsimp only at hSw); go_simp; try (with_reducible rfl))
          try simp only [Act.put, List.setIfInBounds_toArray, List.set_cons_zero, List.set_cons_succ]
          refine take_list (i := 13) (v := ?_) rfl (by kernel_rfl) (by kernel_rfl) (by kernel_rfl) (fun _ _ _ h => h) (Or.inl ⟨by rfl, ?_⟩) (by assumption) ?_
          rotate_left
          · (intro w hSw; (try dsimp only at hSw); go_simp; try (with_reducible rfl))
          try simp only [Act.put, List.setIfInBounds_toArray, List.set_cons_zero, List.set_cons_succ]
          refine take_list (i := 14) (v := ?_) rfl (by kernel_rfl) (by kernel_rfl) (by kernel_rfl) (fun _ _ _ h => h) (Or.inl ⟨by rfl, ?_⟩) (by assumption) ?_
          rotate_left
          · (intro w hSw; (try dsimp only at hSw); go_simp; try (with_reducible rfl))
          try simp only [Act.put, List.setIfInBounds_toArray, List.set_cons_zero, List.set_cons_succ]
          refine take_list (i := 15) (v := undef) rfl (by kernel_rfl) (by kernel_rfl) (by kernel_rfl) (fun _ _ _ h => h) (Or.inr ⟨by rfl, rfl⟩) (by assumption) ?_
          try simp only [Act.put, List.setIfInBounds_toArray, List.set_cons_zero, List.set_cons_succ]
          refine take_list (i := 16) (v := undef) rfl (by kernel_rfl) (by kernel_rfl) (by kernel_rfl) (fun _ _ _ h => h) (Or.inr ⟨by rfl, rfl⟩) (by assumption) ?_
          try simp only [Act.put, List.setIfInBounds_toArray, List.set_cons_zero, List.set_cons_succ]
          refine take_list (i := 17) (v := undef) rfl (by kernel_rfl) (by kernel_rfl) (by kernel_rfl) (fun _ _ _ h => h) (Or.inr ⟨by rfl, rfl⟩) (by assumption) ?_
          try simp only [Act.put, List.setIfInBounds_toArray, List.set_cons_zero, List.set_cons_succ]
          refine take_list (i := 18) (v := undef) rfl (by kernel_rfl) (by kernel_rfl) (by kernel_rfl) (fun _ _ _ h => h) (Or.inr ⟨by rfl, rfl⟩) (by assumption) ?_
          try simp only [Act.put, List.setIfInBounds_toArray, List.set_cons_zero, List.set_cons_succ]
          refine take_list (i := 19) (v := undef) rfl (by kernel_rfl) (by kernel_rfl) (by kernel_rfl) (fun _ _ _ h => h) (Or.inr ⟨by rfl, rfl⟩) (by assumption) ?_
          try simp only [Act.put, List.setIfInBounds_toArray, List.set_cons_zero, List.set_cons_succ]
          refine take_list (i := 20) (v := undef) rfl (by kernel_rfl) (by kernel_rfl) (by kernel_rfl) (fun _ _ _ h => h) (Or.inr ⟨by rfl, rfl⟩) (by assumption) ?_
          try simp only [Act.put, List.setIfInBounds_toArray, List.set_cons_zero, List.set_cons_succ]
          refine take_list (i := 21) (v := undef) rfl (by kernel_rfl) (by kernel_rfl) (by kernel_rfl) (fun _ _ _ h => h) (Or.inr ⟨by rfl, rfl⟩) (by assumption) ?_
          try simp only [Act.put, List.setIfInBounds_toArray, List.set_cons_zero, List.set_cons_succ]
          refine take_list (i := 22) (v := undef) rfl (by kernel_rfl) (by kernel_rfl) (by kernel_rfl) (fun _ _ _ h => h) (Or.inr ⟨by rfl, rfl⟩) (by assumption) ?_
          try simp only [Act.put, List.setIfInBounds_toArray, List.set_cons_zero, List.set_cons_succ]
          refine take_list (i := 23) (v := undef) rfl (by kernel_rfl) (by kernel_rfl) (by kernel_rfl) (fun _ _ _ h => h) (Or.inr ⟨by rfl, rfl⟩) (by assumption) ?_
          try simp only [Act.put, List.setIfInBounds_toArray, List.set_cons_zero, List.set_cons_succ]
          refine take_list (i := 24) (v := undef) rfl (by kernel_rfl) (by kernel_rfl) (by kernel_rfl) (fun _ _ _ h => h) (Or.inr ⟨by rfl, rfl⟩) (by assumption) ?_
          try simp only [Act.put, List.setIfInBounds_toArray, List.set_cons_zero, List.set_cons_succ]
          refine take_list (i := 25) (v := undef) rfl (by kernel_rfl) (by kernel_rfl) (by kernel_rfl) (fun _ _ _ h => h) (Or.inr ⟨by rfl, rfl⟩) (by assumption) ?_
          try simp only [Act.put, List.setIfInBounds_toArray, List.set_cons_zero, List.set_cons_succ]
          refine take_list (i := 26) (v := ?_) rfl (by kernel_rfl) (by kernel_rfl) (by kernel_rfl) (fun _ _ _ h => h) (Or.inl ⟨by rfl, ?_⟩) (by assumption) ?_
          rotate_left
          · (intro w hSw; (try dsimp only at hSw); go_simp; try (with_reducible rfl))
          try simp only [Act.put, List.setIfInBounds_toArray, List.set_cons_zero, List.set_cons_succ]
          refine take_list (i := 27) (v := ?_) rfl (by kernel_rfl) (by kernel_rfl) (by kernel_rfl) (fun _ _ _ h => h) (Or.inl ⟨by rfl, ?_⟩) (by assumption) ?_
          rotate_left
          · (intro w hSw; (try dsimp only at hSw); go_simp; try (with_reducible rfl))
          try simp only [Act.put, List.setIfInBounds_toArray, List.set_cons_zero, List.set_cons_succ]
          refine take_list (i := 28) (v := ?_) rfl (by kernel_rfl) (by kernel_rfl) (by kernel_rfl) (fun _ _ _ h => h) (Or.inl ⟨by rfl, ?_⟩) (by assumption) ?_
          rotate_left
          · (intro w hSw; (try dsimp only at hSw); go_simp; try (with_reducible rfl))
          try simp only [Act.put, List.setIfInBounds_toArray, List.set_cons_zero, List.set_cons_succ]
          refine wpAnyH_done (by kernel_rfl) ?_ _
          clear hHeld1
          have AZ := AY.out.call hb5
          obtain ⟨c0, c1, c2⟩ := AZ.at_
          have f0 := AZ.free 0
          have f1 := AZ.free 1
          have f2 := AZ.free 2
          have HP5 := Lib.hid (al_none AZ HF.out)
          clear hb5 hk0 AZ
          go_wp2
          obtain ⟨r0, r1, r2, hor⟩ := HP5.out
          exact bodyPost_ret (v := rtV rtNone none 0) (by simp [results, Tryz.results25, go_sem, rtV, rtNone, r0, r1, r2]) rfl hor

end
end Go.Proofs.YtlnnmjomdblciaaGreat

/- The walks of package short: a node's neighbours, the link between two nodes. -/
import Derived.Test.YtlnnmjomdblciaaGreatShortP
import Derived.Test.YtlnnmjomdblciaaGreatRegs
namespace Go.Proofs.YtlnnmjomdblciaaGreat
set_option linter.unusedSimpArgs false
set_option linter.unusedVariables false
open Go.RowKit

section
theorem Good.pairs {p : Net} (g : Good p) : (pairsOf p.links).Nodup := by
  have := g.linksB
  simp only [YtlnnmjomdblciaaGreat.linksB, Bool.and_eq_true, decide_eq_true_eq] at this
  exact this.2.2
/-- A walker's cells, and its value. -/
def wkCells (p : Net) (h : Hd) (f gl : Int) : Array Value := #[.int .i64 p.proto, .int .i64 p.cap, .int .i64 p.k, .slice h.an p.nodes.length h.cn, .slice h.al p.links.length h.cl, .slice h.ad p.dests.length h.cd, .slice h.ac p.checks.length h.cc, .int .i64 f, .int .i64 gl]
def wkV (p : Net) (h : Hd) (f gl : Int) : Value := .agg (wkCells p h f gl)
structure WK (w0 wr : World) (b : Nat) (p : Net) (h : Hd) (f gl : Int) : Prop where
  below : Below w0.heap.size w0 wr
  box : wr.heap[b]? = some (.cells (wkCells p h f gl) 93 (0, 0))
section
variable {w0 wr w' : World} {b : Nat} {p : Net} {h : Hd} {f gl : Int}
theorem WK.begin (w : World) (p : Net) (h : Hd) (f gl : Int) : WK w (w.alloc (.cells (wkCells p h f gl) 93)) w.heap.size p h f gl := ⟨(Below.refl _ _).alloc (Nat.le_refl _) _, heap_alloc_new _ _⟩
theorem WK.call (a : WK w0 wr b p h f gl) (hb : Below wr.heap.size wr w') : WK w0 w' b p h f gl := ⟨since_trans a.below hb, (hb.block _ (lt_heap a.box)).trans a.box⟩
theorem WK.since {B : Nat} (a : WK w0 wr b p h f gl) (hb : Below B wr w') (h1 : w0.heap.size ≤ B) (h2 : b < B) : WK w0 w' b p h f gl := ⟨a.below.trans (hb.mono h1), (hb.block _ h2).trans a.box⟩
theorem WK.lt (a : WK w0 wr b p h f gl) : b < wr.heap.size := lt_heap a.box
theorem WK.all (a : WK w0 wr b p h f gl) : (wr.cell? ⟨b, 0, none⟩ = some (.int .i64 p.proto) ∧ wr.cell? ⟨b, 1, none⟩ = some (.int .i64 p.cap) ∧ wr.cell? ⟨b, 2, none⟩ = some (.int .i64 p.k) ∧ wr.cell? ⟨b, 3, none⟩ = some (.slice h.an p.nodes.length h.cn) ∧ wr.cell? ⟨b, 4, none⟩ = some (.slice h.al p.links.length h.cl) ∧
    wr.cell? ⟨b, 5, none⟩ = some (.slice h.ad p.dests.length h.cd) ∧ wr.cell? ⟨b, 6, none⟩ = some (.slice h.ac p.checks.length h.cc)) ∧ wr.cell? ⟨b, 7, none⟩ = some (.int .i64 f) ∧ wr.cell? ⟨b, 8, none⟩ = some (.int .i64 gl) :=
  ⟨⟨cell_of_row wr _ 0 _ _ _ a.box, cell_of_row wr _ 1 _ _ _ a.box, cell_of_row wr _ 2 _ _ _ a.box, cell_of_row wr _ 3 _ _ _ a.box, cell_of_row wr _ 4 _ _ _ a.box, cell_of_row wr _ 5 _ _ _ a.box, cell_of_row wr _ 6 _ _ _ a.box⟩, cell_of_row wr _ 7 _ _ _ a.box, cell_of_row wr _ 8 _ _ _ a.box⟩
end
/-- What is appended over the links, sorted, is the neighbours. -/
def othM (L : List Lk) (f : Int) (u : Nat) : List Int := (arL L f u L.length).map fun (i : Nat) => othL L i u
theorem oth_sort {L : List Lk} {f : Int} {N u : Nat} (hok : LksOk L N) (hnd : (pairsOf L).Nodup) : ((othM L f u).mergeSort fun x y => decide (x ≤ y)) = (nbL L f N u).map fun (v : Nat) => (v : Int) := by
  have hat : ∀ i ∈ arL L f u L.length, ∃ x v, Joint L f N u v i x ∧ othL L i u = (v : Int) := by
    intro i hi
    obtain ⟨hlt, har⟩ := mem_arL.1 hi
    obtain ⟨x, hx⟩ : ∃ x, L[i]? = some x := ⟨_, List.getElem?_eq_getElem hlt⟩
    obtain ⟨v, hv, _, hadj⟩ := ar_oth hok hx har
    have hends : (x.a = u ∧ x.b = v) ∨ (x.b = u ∧ x.a = v) := by
      unfold othV at hv
      split at hv
      · left; omega
      · split at hv
        · right; omega
        · omega
    have hf : hasB f i = false := by
      unfold isAr at har
      rw [hx] at har
      simp at har
      first
        | exact har.1
        | exact har.2
        | simp_all
    exact ⟨x, v, ⟨betI_adj hok hnd hx hf hends, hx, hf, hends⟩, by rw [othL_at hx, hv]⟩
  have hnd1 : (othM L f u).Nodup := by
    unfold othM
    rw [List.nodup_iff_pairwise_ne, List.pairwise_map]
    have h1 : (arL L f u L.length).Pairwise (· ≠ ·) := List.Pairwise.imp (R := (· < ·)) (fun h => by omega) (List.Pairwise.filter _ List.pairwise_lt_range)
    refine List.Pairwise.imp_of_mem (fun {i j} hi hj hij e => hij ?_) h1
    obtain ⟨x, v, jx, hv⟩ := hat i hi
    obtain ⟨y, v', jy, hv'⟩ := hat j hj
    rw [hv, hv'] at e
    have : v = v' := by omega
    subst this
    have := jx.bet.symm.trans jy.bet
    omega
  have hnd2 : ((nbL L f N u).map fun (v : Nat) => (v : Int)).Nodup := by
    rw [List.nodup_iff_pairwise_ne, List.pairwise_map]
    exact (nb_sorted L f N u).imp (fun h => by omega)
  have hperm : (othM L f u).Perm ((nbL L f N u).map fun (v : Nat) => (v : Int)) := by
    rw [List.perm_ext_iff_of_nodup hnd1 hnd2]
    intro z
    constructor
    · intro hz
      obtain ⟨i, hi, rfl⟩ := List.mem_map.1 hz
      obtain ⟨x, v, j, hv⟩ := hat i hi
      exact List.mem_map.2 ⟨v, (mem_nb hok).2 ⟨i, x, j.at_, j.up, j.ends⟩, hv.symm⟩
    · intro hz
      obtain ⟨v, hv, rfl⟩ := List.mem_map.1 hz
      obtain ⟨i, x, j⟩ := joint_of hok hnd ((mem_nb hok).1 hv)
      exact List.mem_map.2 ⟨i, j.ar hok hnd, j.oth hok⟩
  refine List.Perm.eq_of_pairwise (le := fun a b : Int => a ≤ b) (fun a b _ _ h1 h2 => Int.le_antisymm h1 h2) (sorted_ints _) ?_ ((List.mergeSort_perm _ _).trans hperm)
  rw [List.pairwise_map]
  exact (nb_sorted L f N u).imp (fun h => by omega)
theorem ints_nats (l : List Nat) : ints (l.map fun (v : Nat) => (v : Int)) = nats l := by simp [ints, nats]
theorem othM_len (L : List Lk) (f : Int) (u : Nat) : (othM L f u).length = (arL L f u L.length).length := by simp [othM]
def IntsPost (l : List Nat) (w : World) (e : Ending) (w' : World) : Prop := ∃ A c, e = .returned (.slice A l.length c) ∧ Own w' w.heap.size 3 1 A l.length c (nats l) ∧ Below w.heap.size w w'
theorem near_post {p : Net} {f : Int} {u : Nat} {w wb wc : World} {A : Option Addr} {c B n : Nat} (hg : Good p) (hn : n = (othM p.links f u).length) (hB : w.heap.size ≤ B) (hb : Below w.heap.size w wb) (hs : B ≤ wb.heap.size) (ho : Own wb B 3 1 A n c (ints (othM p.links f u)))
    (ho2 : Own wc B 3 1 A n c (ints ((othM p.links f u).mergeSort fun x y => decide (x ≤ y)))) (hgr : wb.grownBy wc (blk A)) : IntsPost (nbL p.links f p.nodes.length u) w (.returned (.slice A n c)) wc := by
  subst hn
  have e := oth_sort (f := f) (u := u) hg.lksOk hg.pairs
  have hl : (othM p.links f u).length = (nbL p.links f p.nodes.length u).length := by
    have := congrArg List.length e
    rwa [List.length_mergeSort, List.length_map] at this
  rw [e, ints_nats] at ho2
  rw [hl] at ho2 ⊢
  exact ⟨A, c, rfl, ho2.more hB, hb.grown hgr hb.size (fun g hg => by have := ho.from_ g hg; omega)⟩

set_option maxRecDepth 100000 in
theorem near_any (p : Net) (h : Hd) (f gl : Int) (u : Nat) (w : World) (hp : NetR w w.heap.size p h) (hg : Good p) :
    Calls Tryz.prog 123 #[wkV p h f gl, .int .i64 (u : Int)] w (IntsPost (nbL p.links f p.nodes.length u) w) := by
  obtain ⟨i0, hi0, hz0, hs0, hb0⟩ := info_parts Tryz.info_int
  have HP := Lib.hid hp
  have HG := Lib.hid hg
  have W0 := Lib.hid (WK.begin w p h f gl)
  have hl16 := hg.l16
  clear hp hg
  unfold wkV wkCells
  go_enter Tryz.func123, Tryz.ntmps123
  go_upto_region 1 with fail
  unfold wkCells at W0
  generalize (w.alloc (.cells #[.int .i64 p.proto, .int .i64 p.cap, .int .i64 p.k, .slice h.an p.nodes.length h.cn, .slice h.al p.links.length h.cl, .slice h.ad p.dests.length h.cd, .slice h.ac p.checks.length h.cc, .int .i64 f, .int .i64 gl] 93)) = w1 at *
  obtain ⟨⟨g0, g1, g2, g3, g4, g5, g6⟩, g7, g8⟩ := WK.all (p := p) (h := h) (f := f) (gl := gl) (w0 := w) (wr := w1) (b := w.heap.size) W0.out
  have B1 := Lib.hid W0.out.below
  go_wp2_with fail
  refine (aroundX_any p h f u w1 (HP.out.call B1.out) HG.out).mono ?_
  rintro e w2 ⟨A, c, rfl, ho, hb2⟩
  have B2 := Lib.hid (since_trans B1.out hb2)
  have W2 := Lib.hid (W0.out.call hb2)
  have RA := Lib.hid ho.rd
  have har := arL_le p.links f u p.links.length
  have HW2 : Hid (w.heap.size < w2.heap.size) := Lib.hid W2.out.lt
  clear ho hb2 g0 g1 g2 g3 g4 g5 g6 g7 g8 W0
  have OL := Lib.hid (othM_len p.links f u)
  have OM : Hid (∀ k i, (arL p.links f u p.links.length)[k]? = some i → (othM p.links f u).take (k + 1) = (othM p.links f u).take k ++ [othL p.links (i : Nat) u]) := Lib.hid (fun k i hi => by
    rw [List.take_add_one]
    unfold othM
    rw [List.getElem?_map, hi]; rfl)
  generalize hM : othM p.links f u = M at *
  have HM := Lib.hid hM
  clear hM
  generalize hR : arL p.links f u p.links.length = ar at *
  clear hR
  go_wp2_with fail
  go_loopw [4, 14] (fun so si wx => ∃ (k : Nat) (A2 : Option Addr) (c2 : Nat), k ≤ ar.length ∧ si = .int .i64 k ∧ so = .slice A2 k c2 ∧ Own wx w2.heap.size 3 1 A2 k c2 (ints (M.take k)) ∧ Below w2.heap.size w2 wx) (fun _ si _ => ar.length - (intOf si).toNat)
  case atStart => exact ⟨0, none, 0, by omega, rfl, rfl, by simpa [ints] using Own.nil _ _ _ _, Below.refl _ _⟩
  case round =>
    obtain ⟨k, A2, c2, hk, rfl, rfl, hO, hB⟩ := hrel
    have OX := Lib.hid hO
    have BX := Lib.hid hB
    have hsz := hB.size
    clear hO hB
    by_cases hlt : k < ar.length
    · have hlt' : (k : Int) < (ar.length : Int) := by omega
      have hk0 : (0 : Int) ≤ (k : Int) := by omega
      obtain ⟨i, hi⟩ : ∃ i, ar[k]? = some i := ⟨_, List.getElem?_eq_getElem hlt⟩
      obtain ⟨b, o, rfl, hb, hc⟩ := (RA.out.below BX.out (Nat.le_refl _)).one (i := k) (x := .int .i64 (i : Int)) (nats_at hi)
      have hT := Lib.hid (OM.out k i hi)
      obtain ⟨⟨g0, g1, g2, g3, g4, g5, g6⟩, g7, g8⟩ := (W2.out.since BX.out B2.out.size HW2.out).all
      clear hi
      go_wp2_with fail
      refine (otherX_any p h i u _ (HP.out.call (B2.out.trans (BX.out.mono B2.out.size))) HG.out).mono ?_
      rintro e w4 ⟨rfl, hb4⟩
      have O4 := Lib.hid (OX.out.call hb4)
      have B4 := Lib.hid (since_trans BX.out hb4)
      have hs4 := hb4.size
      clear hb4 g0 g1 g2 g3 g4 g5 g6 g7 g8
      have H16 : k + 1 ≤ 17 := by omega
      go_wp2_with ((at_builtin; refine wpList_app _ rfl _ _ 22 rfl w2.heap.size 3 i0 (.int .i64 0) 1 8 Tryz.underlying22 hi0 hz0 hs0 hb0 rfl (by decide) _ _ _ (ints (M.take k)) rfl (by exact O4.out.alloc _) _ 1 _ [.int .i64 (othL p.links (i : Nat) u)] rfl (Rd.new (by simp) rfl) (by intro u hu; simp at hu; subst hu; rfl) (by unfold maxLen; omega) (by omega) (by simp; omega) ?_; intro A2 c2 w2 hown2 hgrow2 hblk2 _; (have O5 := Lib.hid hown2; have B5 := Lib.hid ((B4.out.alloc (by omega) _).grown hgrow2 (by simp; omega) (fun g hg => O4.out.from_ g hg)); clear hown2 hgrow2 hblk2)))
      go_roundw
      case rel => exact ⟨k + 1, A2, c2, by omega, by go_num, rfl, by rw [hT.out]; simpa [ints] using O5.out, B5.out⟩
      case measure => simp [intOf]; omega
    · have hkl : k = ar.length := by omega
      have hlt' : (ar.length : Int) ≤ (k : Int) := by omega
      subst hkl
      have O6 : Hid (Own wr w2.heap.size 3 1 A2 M.length c2 (ints M)) := Lib.hid (by
        have h1 := OX.out
        rwa [List.take_of_length_le (by rw [OL.out]; exact Nat.le_refl _), ← OL.out] at h1)
      have HMl : M.length ≤ 100 := by rw [OL.out]; omega
      have OLo := OL.out
      clear hlt
      go_wp2_with fail
      rw [← OLo]
      refine (sortI_any M A2 c2 _ _ O6.out (by omega)).mono ?_
      rintro e w7 ⟨rfl, ho7, hg7⟩
      have ho7' : Own w7 w2.heap.size 3 1 A2 ar.length c2 (ints (M.mergeSort fun x y => decide (x ≤ y))) := by rw [← OLo]; exact ho7
      have HF : Hid (IntsPost (nbL p.links f p.nodes.length u) w (.returned (.slice A2 ar.length c2)) w7) := Lib.hid (near_post (wb := wr) (B := w2.heap.size) HG.out (by rw [HM.out, OLo]) B2.out.size (B2.out.trans (BX.out.mono B2.out.size)) hsz (by rw [HM.out, ← OLo]; exact O6.out) (by rw [HM.out]; exact ho7') hg7)
      clear ho7 ho7' hg7
      go_wp2
      go_ret
      exact HF.out
end
end Go.Proofs.YtlnnmjomdblciaaGreat

/- The walk of graph.Cuts. -/
import Derived.Test.YtconeplgbemblaaApi
namespace Go.Proofs.Ytconeplgbemblaa
set_option linter.unusedSimpArgs false
set_option linter.unusedVariables false
open Go.RowKit

theorem below_drewN {B : Nat} {a w : World} (h : Below B a w) (n : Nat) : Below B a (w.drewN n) := h.trans ⟨rfl, rfl, rfl, Nat.le_refl _, fun _ _ => rfl⟩
/-- With link i failed too. -/
def withB (f i : Int) : Int := bits BinOp.or IntKind.i64 f (IntKind.i64.wrap (2 ^ i.toNat))

/-- Behind an append to a row of the call's own. -/
theorem AtRight.grown {w : World} {p : Net} {h : Hd} {wx w' : World} {row : Option Nat} (a : AtRight w p h wx) (hp : NetR w w.heap.size p h) (hg : wx.grownBy w' row) (hr : ∀ g, row = some g → w.heap.size + 1 ≤ g) : AtRight w p h w' := by
  have hs := a.size
  have hgs := hg.size
  have hb : Below w.heap.size w w' := a.below.grown hg (by omega) (fun g hg => by have := hr g hg; omega)
  refine ⟨hb, by omega, fun i u hu => ?_, (hp.below hb (Nat.le_refl _)).more hb.size⟩
  rw [World.cell?_of_block (hg.block w.heap.size hs (fun e => by have := hr _ e.symm; omega))]
  exact a.cells i u hu
open Classical in
/-- Is link i a cut? -/
noncomputable def cutB (L : List Lk) (f : Int) (i : Nat) : Bool :=
  match L[i]? with
  | some x => decide (hasB f i = false ∧ ∀ k, ¬ Gr.Ball (Adj L (withB f i)) k x.a.toNat x.b.toNat)
  | none => false
noncomputable def cutL (L : List Lk) (f : Int) (k : Nat) : List Nat := (List.range k).filter (cutB L f)
theorem cutL_le (L : List Lk) (f : Int) (k : Nat) : (cutL L f k).length ≤ k := by
  have := List.length_filter_le (cutB L f) (List.range k)
  simpa [cutL] using this
theorem cutL_hit {L : List Lk} {f : Int} {k : Nat} (h : cutB L f k = true) : cutL L f (k + 1) = cutL L f k ++ [k] := by
  simp [cutL, List.range_succ, List.filter_append, h]
theorem cutL_miss {L : List Lk} {f : Int} {k : Nat} (h : cutB L f k = false) : cutL L f (k + 1) = cutL L f k := by
  simp [cutL, List.range_succ, List.filter_append, h]
theorem cut_hit_step {w2 : World} {L : List Lk} {f : Int} {k m : Nat} {A2 : Option Addr} {c2 B : Nat} (h : cutB L f k = true) (hm : m = (cutL L f k).length + 1)
    (hown2 : Own w2 B 3 1 A2 m c2 (nats (cutL L f k) ++ [Value.int .i64 (k : Int)])) :
    m = (cutL L f (k + 1)).length ∧ Own w2 B 3 1 A2 (cutL L f (k + 1)).length c2 (nats (cutL L f (k + 1))) := by
  have e : m = (cutL L f (k + 1)).length := by rw [cutL_hit h, hm]; simp
  subst e
  refine ⟨rfl, ?_⟩
  rw [← nats_snoc, ← cutL_hit h] at hown2
  exact hown2
theorem cutB_of {L : List Lk} {f : Int} {i : Nat} {x : Lk} {d : Int} (hx : L[i]? = some x) (hf : hasB f i = false) (hd : Gr.IsHops (Adj L (withB f i)) x.a.toNat x.b.toNat d) : cutB L f i = decide (d < 0) := by
  unfold cutB
  rw [hx]
  rcases hd with ⟨e, h⟩ | ⟨n, e, h, _⟩
  · have : d < 0 := by omega
    simp [hf, this, h]
  · have : ¬ d < 0 := by omega
    simp [this, hf]
    exact ⟨n, h⟩
theorem cutB_has {L : List Lk} {f : Int} {i : Nat} (hf : hasB f i = true) : cutB L f i = false := by
  unfold cutB
  split <;> simp [hf]

def CutsPost (L : List Lk) (f : Int) (w : World) (e : Ending) (w' : World) : Prop :=
  ∃ A c, e = .returned (.slice A (cutL L f L.length).length c) ∧ Own w' w.heap.size 3 1 A (cutL L f L.length).length c (nats (cutL L f L.length)) ∧ Below w.heap.size w w'

set_option maxRecDepth 100000 in
set_option maxHeartbeats 2000000 in
theorem cuts_any (p : Net) (h : Hd) (f : Int) (w : World) (hp : NetR w w.heap.size p h) (hg : Good p) : Calls Try.prog 22 #[netV p h, .int .i64 f] w (CutsPost p.links f w) := by
  have HA := Lib.hid (AtRight.begin hp)
  have HG := Lib.hid hg
  have HP := Lib.hid hp
  clear hp hg
  have h12 := HG.out.n12
  have h16 := HG.out.l16
  obtain ⟨i0, hi, hz0, hz1, hz2⟩ := info_parts Try.info_int
  unfold netV netVal
  go_enter Try.func22, Try.ntmps22
  go_wp2_with fail
  refine (right_any p h _ HA.out.net HG.out.small HG.out.names).mono ?_
  rintro e w1 ⟨rfl, hb1⟩
  rw [HG.out.right]
  have HA1 := (HA.out.call hb1)
  obtain ⟨c0, c1, c2, c3, c4, c5, c6⟩ := HA1.all
  clear hb1
  go_wp2_with fail
  go_loopw [4, 13] (fun v i wr => ∃ (k : Nat) (A' : Option Addr) (c' : Nat), k ≤ p.links.length ∧ i = .int .i64 k ∧ v = .slice A' (cutL p.links f k).length c' ∧ Own wr (w.heap.size + 1) 3 1 A' (cutL p.links f k).length c' (nats (cutL p.links f k)) ∧ AtRight w p h wr)
    (fun _ i _ => p.links.length - (intOf i).toNat)
  case atStart => exact ⟨0, none, 0, Nat.zero_le _, rfl, rfl, Own.nil _ _ _ _, HA1⟩
  case round =>
    clear HA1 c0 c1 c2 c3 c4 c5 c6
    obtain ⟨k, A', c', hk, rfl, rfl, hown, HA1⟩ := hrel
    have hle := cutL_le p.links f k
    by_cases hlt : k < p.links.length
    · obtain ⟨⟨xa, xb, xc⟩, hx⟩ : ∃ x, p.links[k]? = some x := ⟨_, List.getElem?_eq_getElem (by omega)⟩
      have hok := HG.out.lksOk _ (List.mem_of_getElem? hx)
      dsimp only at hok
      obtain ⟨a, rfl⟩ : ∃ n : Nat, xa = n := ⟨xa.toNat, by omega⟩
      obtain ⟨e, rfl⟩ : ∃ n : Nat, xb = n := ⟨xb.toNat, by omega⟩
      obtain ⟨b, o, ee, hb, k0, k1, k2⟩ := HA1.net.links.link hx
      have HE := Lib.hid ee
      have HX := Lib.hid hx
      have HA2 := HA1.call ((Below.refl wr.heap.size wr).alloc (Nat.le_refl _) (.cells #[.int .i64 a, .int .i64 e, .int .i64 xc] 47))
      dsimp only at k0 k1 k2
      rw [ee]
      clear hx ee
      by_cases hf : hasB f k = true
      · obtain ⟨c0, c1, c2, c3, c4, c5, c6⟩ := HA1.all
        rw [HE.out] at c4
        have HM := Lib.hid (cutL_miss (cutB_has (L := p.links) hf))
        have hhas : ∀ w, Calls Try.prog 24 #[.int .i64 f, .int .i64 k] w fun e w' => e = .returned (.bool true) ∧ w' = w := fun w => (has_any f k w).mono fun e w' ⟨h1, h2⟩ => ⟨by rw [h1, hf], h2.symm⟩
        go_wp2_with fail
        go_quiet (first | (go_at_call 24; refine Calls.quiet_of_same (hhas _)))
        go_wp2
        go_roundw
        case rel => exact ⟨k + 1, A', c', by omega, by go_num, by rw [HM.out], by rw [HM.out]; exact (hown.alloc _).drewN _, HA2.call (below_drewN (Below.refl _ _) _)⟩
        case measure => simp [intOf]; omega
      · replace hf : hasB f k = false := by simpa using hf
        have ha12 : a < 12 := by omega
        have he12 : e < 12 := by omega
        have haN : a < p.nodes.length := by omega
        obtain ⟨c0, c1, c2, c3, c4, c5, c6⟩ := HA2.all
        rw [HE.out] at c4
        have v0 : (wr.alloc (.cells #[.int .i64 a, .int .i64 e, .int .i64 xc] 47)).cell? ⟨wr.heap.size, 0, none⟩ = some (.int .i64 a) := by rw [World.cell?_alloc_new]; rfl
        have v1 : (wr.alloc (.cells #[.int .i64 a, .int .i64 e, .int .i64 xc] 47)).cell? ⟨wr.heap.size, 1, none⟩ = some (.int .i64 e) := by rw [World.cell?_alloc_new]; rfl
        have HC := Lib.hid (fun (wy : World) (hy : Below (wr.alloc (.cells #[.int .i64 a, .int .i64 e, .int .i64 xc] 47)).heap.size (wr.alloc (.cells #[.int .i64 a, .int .i64 e, .int .i64 xc] 47)) wy) => (HA2.call hy).all)
        have HV := Lib.hid (fun (wy : World) (hy : Below (wr.alloc (.cells #[.int .i64 a, .int .i64 e, .int .i64 xc] 47)).heap.size (wr.alloc (.cells #[.int .i64 a, .int .i64 e, .int .i64 xc] 47)) wy) => And.intro ((hy.cell (p := ⟨wr.heap.size, 0, none⟩) (by simp)).trans v0) ((hy.cell (p := ⟨wr.heap.size, 1, none⟩) (by simp)).trans v1))
        have HL := Lib.hid (fun (wy : World) (hy : Below (wr.alloc (.cells #[.int .i64 a, .int .i64 e, .int .i64 xc] 47)).heap.size (wr.alloc (.cells #[.int .i64 a, .int .i64 e, .int .i64 xc] 47)) wy) => from_any p.links (withB f k) a p.nodes.length h12.2 haN HG.out.lksOk wy (.int .i64 p.proto) (.int .i64 p.cap) (.int .i64 p.k) (.slice h.an p.nodes.length h.cn) (.slice h.ad p.dests.length h.cd) (.slice h.ac p.checks.length h.cc) h.al h.cl (HA2.call hy).net.links HG.out.small.links)
        rw [HE.out] at HL
        have hrun : ∀ (d : Nat → Int) (w : World), _ := fun d w => run_far d he12 w
        clear HA1
        go_wp2_with fail
        clear k0 k1 k2
        go_region_held3 (fun wx => wx.cell? ⟨w.heap.size, 0, none⟩ = some (.int .i64 p.proto) ∧ wx.cell? ⟨w.heap.size, 1, none⟩ = some (.int .i64 p.cap) ∧ wx.cell? ⟨w.heap.size, 2, none⟩ = some (.int .i64 p.k) ∧ wx.cell? ⟨w.heap.size, 3, none⟩ = some (.slice h.an p.nodes.length h.cn) ∧ wx.cell? ⟨w.heap.size, 4, none⟩ = some (.slice (some ⟨b, o, none⟩) p.links.length h.cl) ∧ wx.cell? ⟨w.heap.size, 5, none⟩ = some (.slice h.ad p.dests.length h.cd) ∧ wx.cell? ⟨w.heap.size, 6, none⟩ = some (.slice h.ac p.checks.length h.cc)
            ∧ wx.cell? ⟨wr.heap.size, 0, none⟩ = some (.int .i64 a) ∧ wx.cell? ⟨wr.heap.size, 1, none⟩ = some (.int .i64 e)) (first | exact ⟨c0, c1, c2, c3, c4, c5, c6, v0, v1⟩ | exact ⟨z0, z1, z2, z3, z4, z5, z6, y0, y1⟩) (first
          | (go_at_call 24; refine (has_any _ _ _).mono ?_; rintro e w3 ⟨rfl, rfl⟩; rw [hf])
          | (go_at_call 32; refine (HL.out _ ((Below.refl _ _).drew)).mono ?_; rintro e w4 ⟨d, rfl, hd, hdN, hb4⟩; (have hb5 := (Below.refl _ _).drew.trans hb4); obtain ⟨z0, z1, z2, z3, z4, z5, z6⟩ := HC.out _ hb5; obtain ⟨y0, y1⟩ := HV.out _ hb5; rw [HE.out] at z4))
        have HA4 := HA2.call hb5
        have HB := Lib.hid (cutB_of HX.out hf (hd e))
        have hown4 := (hown.alloc (.cells #[.int .i64 a, .int .i64 e, .int .i64 xc] 47)).call hb5
        have hs4 := HA4.size
        clear hrun hd hdN hb4 hb5 hown z0 z1 z2 z3 z4 z5 z6 y0 y1 c0 c1 c2 c3 c4 c5 c6 v0 v1
        by_cases hde : d e < 0
        · have HM : Hid (cutB p.links f k = true) := Lib.hid (by rw [HB.out]; simpa using hde)
          go_wp2_with (at_builtin; refine wpList_app _ rfl _ _ 22 rfl (w.heap.size + 1) 3 i0 (.int .i64 0) 1 8 Try.underlying22 hi hz0 hz1 hz2 rfl (by decide) _ _ _ (nats (cutL p.links f k)) rfl (by exact hown4.alloc _) _ 1 _ [.int .i64 k] rfl (Rd.new (by simp) rfl) (by intro u hu; simp at hu; subst hu; rfl) (by unfold maxLen; omega) (by omega) (by simp; omega) ?_; intro A2 c2 w2 hown2 hgrow2 hblk2 _)
          have R := cut_hit_step HM.out rfl hown2
          have HA5 := (HA4.call ((Below.refl _ _).alloc (Nat.le_refl _) _)).grown HP.out hgrow2 hown4.from_
          go_roundw
          case rel => exact ⟨k + 1, A2, c2, by omega, by go_num, by rw [← R.1], R.2, HA5⟩
          case measure => simp [intOf]; omega
        · have HM : Hid (cutB p.links f k = false) := Lib.hid (by rw [HB.out]; simpa using hde)
          go_wp2
          go_roundw
          case rel => exact ⟨k + 1, A', c', by omega, by go_num, by rw [cutL_miss HM.out], by rw [cutL_miss HM.out]; exact hown4, HA4⟩
          case measure => simp [intOf]; omega
    · have hk' : k = p.links.length := by omega
      have hfin : CutsPost p.links f w (.returned (.slice A' (cutL p.links f k).length c')) wr := by
        subst hk'
        exact ⟨A', c', rfl, hown.more (by omega), HA1.below⟩
      have HF := Lib.hid hfin
      clear hk' hfin
      go_wp2
      go_ret
      exact HF.out
end Go.Proofs.Ytconeplgbemblaa

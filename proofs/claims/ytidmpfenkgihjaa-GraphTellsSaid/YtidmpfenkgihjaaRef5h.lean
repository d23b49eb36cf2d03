/- The document's own answers of layer 5: Hops, by rounds. -/
import Derived.Test.YtidmpfenkgihjaaBadG
import Derived.Test.YtidmpfenkgihjaaRef5o
import Derived.Deep.OwnRows
namespace Go.Proofs.Ytidmpfenkgihjaa
set_option linter.unusedSimpArgs false
set_option linter.unusedVariables false
open Go.RowKit

section
theorem Try.info_bool : (Try.prog.info? 4).map (fun i => (i.zero, i.size, i.bytes)) = some (some (.bool false), 1, 1) := by kernel_rfl
theorem made_bools (N : Nat) : madeCells #[Value.bool false] N = (boolsV N fun _ => false).toArray := by
  apply Array.ext_getElem?
  intro i
  by_cases h : i < N
  · rw [show ((boolsV N fun _ => false).toArray)[i]? = some (.bool false) from by simp [boolsV_at (fun _ => false) h]]; simp [madeCells, h, Nat.mod_one]
  · rw [Array.getElem?_eq_none (by simp [madeCells]; omega), Array.getElem?_eq_none (by simp [boolsV_len]; omega)]
theorem set_grown (y : World) (b i : Nat) (v : Value) : y.grownBy (y.setCell ⟨b, i, none⟩ v) (some b) :=
  ⟨rfl, rfl, rfl, by simp [World.setCell], fun k _ hne => Below.heap_setCell _ _ _ _ (by rintro rfl; exact hne rfl)⟩
/-- A cell of what is owned is written. -/
theorem Own.putB {w : World} {B N c : Nat} {e : TypeId} {g off : Nat} {d : Nat → Bool} (h : Own w B e 1 (some ⟨g, off, none⟩) N c (boolsV N d)) {j : Nat} (hj : j < N) :
    Own (w.setCell ⟨g, off + j, none⟩ (.bool true)) B e 1 (some ⟨g, off, none⟩) N c (boolsV N (putB d j)) := by
  obtain ⟨h1, h2, h3, h4, hb, h5⟩ := h
  refine ⟨by rw [boolsV_len]; omega, h2, h3, h4, hb, fun hc => ?_⟩
  obtain ⟨g', off', cur, e', hh, hs, hx⟩ := h5 hc
  injection e' with e'
  injection e' with e1 e2
  subst e1 e2
  refine ⟨g, off, cur.setIfInBounds (off + j) (.bool true), rfl, heap_setCell_same w g (off + j) cur _ _ hh, by simpa using hs, fun i u hu => ?_⟩
  rw [← boolsV_set] at hu
  by_cases e : i = j
  · subst e
    rw [List.getElem?_set_self (by rw [boolsV_len]; exact hj)] at hu
    injection hu with hu
    have : off + i < cur.size := (Array.getElem?_eq_some_iff.1 (hx i _ (boolsV_at d hj))).1
    rw [← hu]; simp [this]
  · rw [List.getElem?_set_ne (Ne.symm e)] at hu
    rw [Array.getElem?_setIfInBounds_ne (by omega)]
    exact hx i u hu
/-- The network's copy, and a row of Booleans of the call's own. -/
structure HW (w wr : World) (p : Net) (h : Hd) (N g off c : Nat) (d : Nat → Bool) : Prop where
  at_ : AtRight w p h wr
  row : Own wr (w.heap.size + 1) 4 1 (some ⟨g, off, none⟩) N c (boolsV N d)
/-- .. and another one. -/
structure HW2 (w wr : World) (p : Net) (h : Hd) (N g off c : Nat) (d : Nat → Bool) (g2 off2 c2 : Nat) (e : Nat → Bool) : Prop where
  a : HW w wr p h N g off c d
  row : Own wr (w.heap.size + 1) 4 1 (some ⟨g2, off2, none⟩) N c2 (boolsV N e)
  ne : g2 ≠ g
section
variable {w wr w' : World} {p : Net} {h : Hd} {N g off c g2 off2 c2 : Nat} {d e : Nat → Bool}
theorem HW.call (a : HW w wr p h N g off c d) (hb : Below wr.heap.size wr w') : HW w w' p h N g off c d := ⟨a.at_.call hb, a.row.call hb⟩
theorem HW2.call (a : HW2 w wr p h N g off c d g2 off2 c2 e) (hb : Below wr.heap.size wr w') : HW2 w w' p h N g off c d g2 off2 c2 e := ⟨a.a.call hb, a.row.call hb, a.ne⟩
theorem HW.cell (a : HW w wr p h N g off c d) {j : Nat} (hj : j < N) : wr.cell? ⟨g, off + j, none⟩ = some (.bool (d j)) := by
  obtain ⟨b, o, e', hb, hc⟩ := a.row.rd.2 (by omega)
  injection e' with e'
  injection e' with e1 e2
  subst e1 e2
  exact hc j _ (boolsV_at d hj)
theorem HW2.cell (a : HW2 w wr p h N g off c d g2 off2 c2 e) {j : Nat} (hj : j < N) : wr.cell? ⟨g2, off2 + j, none⟩ = some (.bool (e j)) ∧ wr.frozen? ⟨g2, off2 + j, none⟩ = false := by
  refine ⟨HW.cell ⟨a.a.at_, a.row⟩ hj, ?_⟩
  obtain ⟨g', off', cur, e', hh, _⟩ := a.row.2.2.2.2.2 (by have := a.row.2.1; omega)
  injection e' with e'
  injection e' with e1 e2
  subst e1 e2
  exact frozen_of_row wr _ _ _ _ hh
theorem HW2.put (a : HW2 w wr p h N g off c d g2 off2 c2 e) (hp : NetR w w.heap.size p h) {j : Nat} (hj : j < N) : HW2 w (wr.setCell ⟨g2, off2 + j, none⟩ (.bool true)) p h N g off c d g2 off2 c2 (putB e j) := by
  have hB := a.row.from_ g2 rfl
  refine ⟨⟨a.a.at_.grown hp (set_grown wr g2 (off2 + j) (.bool true)) (fun g hg => by injection hg with hg; omega), ?_⟩, a.row.putB hj, a.ne⟩
  exact a.a.row.setCell_far (p := ⟨g2, _, none⟩) (fun q hq => by simp [blk] at hq; have := a.ne; show q ≠ g2; omega) _
end
attribute [local go_sem ↓] Go.wp_at_zero Go.wp_at_succ
set_option maxRecDepth 100000 in
set_option maxHeartbeats 4000000 in
theorem rhops_any (p : Net) (h : Hd) (f a b : Int) (w : World) (hp : NetR w w.heap.size p h) (hs : Small p) :
    Calls Try.prog 16 #[netV p h, .int .i64 f, .int .i64 a, .int .i64 b] w fun e w' => e = .returned (.int .i64 (hopsG p f a b)) ∧ Below w.heap.size w w' := by
  have HA := Lib.hid (AtRight.begin hp)
  have HP := Lib.hid hp
  have HS := Lib.hid hs
  have hnl := hs.nodes
  have hll := hs.links
  obtain ⟨i0, hi0, hz0, hs0, hb0⟩ := info_parts Try.info_bool
  have HBAD : Hid (¬ (rightB p = true ∧ placeB a p.nodes.length = true ∧ placeB b p.nodes.length = true) → -1 = hopsG p f a b) := Lib.hid (fun h => by unfold hopsG; rw [if_neg h])
  clear hp hs
  unfold netV netVal
  go_enter Try.func16, Try.ntmps16
  go_wp2_with fail
  refine (rright_any p h _ HA.out.net HS.out).mono ?_
  rintro e w1 ⟨rfl, hb1⟩
  have HA1 := Lib.hid (HA.out.call hb1)
  obtain ⟨c0, c1, c2, c3, c4, c5, c6⟩ := HA1.out.all
  clear hb1
  cases hr : rightB p with
  | false =>
    have HF := Lib.hid (HBAD.out (by rw [hr]; simp))
    clear hr
    go_wp2
    go_ret
    exact ⟨ret_int HF.out, HA1.out.below⟩
  | true =>
  by_cases ha0 : a < 0
  · have ha0' : decide (a < 0) = true := decide_eq_true ha0
    have HF := Lib.hid (HBAD.out (by rintro ⟨-, h, -⟩; simp [placeB] at h; omega))
    clear hr ha0
    go_wp2
    go_ret
    exact ⟨ret_int HF.out, HA1.out.below⟩
  have ha0' : decide (a < 0) = false := decide_eq_false ha0
  by_cases ha1 : (p.nodes.length : Int) ≤ a
  · have ha1' : decide ((p.nodes.length : Int) ≤ a) = true := decide_eq_true ha1
    have HF := Lib.hid (HBAD.out (by rintro ⟨-, h, -⟩; simp [placeB] at h; omega))
    clear hr ha1 ha0
    go_wp2
    go_ret
    exact ⟨ret_int HF.out, HA1.out.below⟩
  have ha1' : decide ((p.nodes.length : Int) ≤ a) = false := decide_eq_false ha1
  by_cases hb0' : b < 0
  · have hb0'' : decide (b < 0) = true := decide_eq_true hb0'
    have HF := Lib.hid (HBAD.out (by rintro ⟨-, -, h⟩; simp [placeB] at h; omega))
    clear hr ha1 ha0 hb0'
    go_wp2
    go_ret
    exact ⟨ret_int HF.out, HA1.out.below⟩
  have hb0'' : decide (b < 0) = false := decide_eq_false hb0'
  by_cases hb1' : (p.nodes.length : Int) ≤ b
  · have hb1'' : decide ((p.nodes.length : Int) ≤ b) = true := decide_eq_true hb1'
    have HF := Lib.hid (HBAD.out (by rintro ⟨-, -, h⟩; simp [placeB] at h; omega))
    clear hr ha1 ha0 hb0' hb1'
    go_wp2
    go_ret
    exact ⟨ret_int HF.out, HA1.out.below⟩
  have hb1'' : decide ((p.nodes.length : Int) ≤ b) = false := decide_eq_false hb1'
  have GD := Lib.hid (good_of2 HS.out hr)
  have HGO : Hid (∀ d : Int, Gr.IsHops (Adj p.links f) a.toNat b.toNat d → d = hopsG p f a b) := Lib.hid (fun d hd => by
    unfold hopsG
    rw [if_pos ⟨hr, by simp [placeB]; omega, by simp [placeB]; omega⟩]
    exact (hopsV_is hd).symm)
  clear hr HBAD
  obtain ⟨a, rfl⟩ : ∃ n : Nat, a = n := ⟨a.toNat, by omega⟩
  obtain ⟨b, rfl⟩ : ∃ n : Nat, b = n := ⟨b.toNat, by omega⟩
  have han : a < p.nodes.length := by omega
  have hbn : b < p.nodes.length := by omega
  have HLO := Lib.hid GD.out.lksOk
  simp only [Int.toNat_natCast] at HGO
  have hsw := HA1.out.size
  have hcp : 0 < p.nodes.length := by omega
  have W1 : Hid (HW w (w1.alloc (.cells (madeCells #[Value.bool false] p.nodes.length) 4)) p h p.nodes.length w1.heap.size 0 p.nodes.length (fun _ => false)) := Lib.hid
    ⟨HA1.out.call ((Below.refl _ _).alloc (Nat.le_refl _) _), by
      refine ⟨by rw [boolsV_len]; omega, Nat.le_refl _, by unfold maxLen; omega, by simp, by (intro g hg; simp [blk] at hg; omega), fun _ => ⟨_, 0, _, rfl, heap_alloc_new _ _, by rw [made_bools]; simp [boolsV_len], fun j u hu => by rw [made_bools, Nat.zero_add]; simpa using hu⟩⟩⟩
  have W2 : Hid (HW w ((w1.alloc (.cells (madeCells #[Value.bool false] p.nodes.length) 4)).setCell ⟨w1.heap.size, 0 + a, none⟩ (.bool true)) p h p.nodes.length w1.heap.size 0 p.nodes.length (putB (fun _ => false) a)) := Lib.hid
    ⟨W1.out.at_.grown HP.out (set_grown _ _ _ _) (fun g hg => by injection hg with hg; omega), W1.out.row.putB han⟩
  have hce := W1.out.cell han
  have hfe : (w1.alloc (.cells (madeCells #[Value.bool false] p.nodes.length) 4)).frozen? ⟨w1.heap.size, 0 + a, none⟩ = false := frozen_of_row _ _ _ _ _ (heap_alloc_new _ _)
  rw [Nat.zero_add] at hce hfe W2
  clear W1 ha0' ha1' hb0'' hb1''
  rw [show (w1.alloc (.cells (madeCells #[Value.bool false] p.nodes.length) 4)).setCell ⟨w1.heap.size, a, none⟩ (.bool true) = w1.alloc (.cells ((madeCells #[Value.bool false] p.nodes.length).setIfInBounds a (.bool true)) 4) from by go_simp] at W2
  go_upto_region 6 with (with_reducible refine wpList_make_row _ rfl _ _ 62 rfl 4 i0 (.bool false) Try.underlying62 hi0 hz0 hs0 rfl .i64 .i64 p.nodes.length rfl rfl (by rw [hb0]; omega) (by omega) ?_)
  go_cut [11] (fun s wx => s = .int .i64 0 ∧ HW w wx p h p.nodes.length w1.heap.size 0 p.nodes.length (putB (fun _ => false) a))
  case first =>
    go_wp2_with fail
    go_meet
    case rel => exact ⟨rfl, W2.out⟩
  case rest =>
  obtain ⟨rfl, hW⟩ := hcut
  have W3 := Lib.hid hW
  clear hW W2 hce hfe c0 c1 c2 c3 c4 c5 c6
  rename_i hKl
  refine hKl _ _ ?_
  clear hKl
  generalize w1.heap.size = g0 at *
  have HI0 := Lib.hid (InIs.begin p.links f a)
  generalize putB (fun _ => false) a = d0 at *
  go_wp2_with fail
  go_loopw [10, 11] (fun si sn wx => ∃ (n : Nat) (d : Nat → Bool) (g off c : Nat), n ≤ p.nodes.length + 1 ∧ sn = .int .i64 (n : Int) ∧ si = .slice (some ⟨g, off, none⟩) p.nodes.length c ∧ HW w wx p h p.nodes.length g off c d ∧ InIs p.links f a n d ∧ ∀ j, j < n → ¬ Gr.Ball (Adj p.links f) j a b) (fun _ sn _ => p.nodes.length + 1 - (intOf sn).toNat)
  case atStart => exact ⟨0, d0, g0, 0, p.nodes.length, by omega, rfl, rfl, W3.out, HI0.out, fun j hj => by omega⟩
  case round =>
    clear W3 HI0
    obtain ⟨n, d, g, off, c, hn, rfl, rfl, hW, hI, hno⟩ := hrel
    have WX := Lib.hid hW
    have HI := Lib.hid hI
    have HNO := Lib.hid hno
    obtain ⟨c0, c1, c2, c3, c4, c5, c6⟩ := hW.at_.all
    have hcb := hW.cell hbn
    clear hW hI hno
    by_cases hlt : n ≤ p.nodes.length
    · have hlt' : (n : Int) ≤ (p.nodes.length : Int) := by omega
      have hb00 : (0 : Int) ≤ (b : Int) := by omega
      cases hdb : d b with
      | true =>
        rw [hdb] at hcb
        have HF := Lib.hid (HGO.out n (HI.out.hit hdb HNO.out))
        clear hdb
        go_wp2_with fail
        go_ret
        exact ⟨ret_int HF.out, WX.out.at_.below⟩
      | false =>
        rw [hdb] at hcb
        have HMS := Lib.hid (HI.out.miss hdb)
        clear hdb HNO
        go_upto_region 12 with (at_builtin; refine wpList_app _ rfl _ _ 62 rfl (wr.heap.size) 4 i0 (.bool false) 1 1 Try.underlying62 hi0 hz0 hs0 hb0 rfl (by decide) none 0 0 [] rfl (Own.nil _ _ _ _) _ p.nodes.length _ (boolsV p.nodes.length d) rfl WX.out.row.rd (by intro u hu; simp [boolsV] at hu; obtain ⟨v, _, rfl⟩ := hu; rfl) (by unfold maxLen; omega) (by omega) (Nat.le_refl _) ?_; intro A2 e2 w2 hown2 hgrow2 hblk2 hzz2)
        have hbl2 : Below wr.heap.size wr w2 := (Below.refl _ _).grown hgrow2 (Nat.le_refl _) (fun g hg => by cases hg)
        simp only [Nat.zero_add, List.nil_append] at hown2 ⊢
        obtain ⟨g2, off2, cur2, e3, -, -⟩ := hown2.2.2.2.2.2 (by have := hown2.2.1; omega)
        subst e3
        have hgw : g < wr.heap.size := by
          obtain ⟨g', off', cur, e', hh, _⟩ := WX.out.row.2.2.2.2.2 (by have := WX.out.row.2.1; omega)
          injection e' with e'
          injection e' with e1 e2
          subst e1
          exact lt_heap hh
        have W5 := Lib.hid (show HW2 w w2 p h p.nodes.length g off c d g2 off2 e2 d from ⟨WX.out.call hbl2, hown2.more (by have := WX.out.at_.size; omega), by have := hown2.from_ g2 rfl; omega⟩)
        clear hown2 hgrow2 hblk2 hbl2 hgw hzz2
        go_cut [13] (fun s wx => s = .int .i64 0 ∧ HW2 w wx p h p.nodes.length g off c d g2 off2 e2 d)
        case first =>
          go_wp2_with fail
          go_meet
          case rel => exact ⟨rfl, W5.out⟩
        case rest =>
        clear W5
        obtain ⟨rfl, hW⟩ := hcut
        have W6 := Lib.hid hW
        clear hW
        rename_i hKl
        refine hKl _ _ ?_
        clear hKl
        go_cut [] (fun wx => ∃ e, HW2 w wx p h p.nodes.length g off c d g2 off2 e2 e ∧ NextIs p.links f p.links.length d e)
        case first =>
          go_wp2_with fail
          go_loopw [13] (fun si wx => ∃ (k : Nat) (e : Nat → Bool), k ≤ p.links.length ∧ si = .int .i64 (k : Int) ∧ HW2 w wx p h p.nodes.length g off c d g2 off2 e2 e ∧ NextIs p.links f k d e) (fun si _ => p.links.length - (intOf si).toNat)
          case atStart => exact ⟨0, d, Nat.zero_le _, rfl, W6.out, NextIs.begin _ _ _⟩
          case round =>
            clear W6
            obtain ⟨k, e, hk, rfl, hW, hN⟩ := hrel
            have WY := Lib.hid hW
            have NX := Lib.hid hN
            obtain ⟨c0, c1, c2, c3, c4, c5, c6⟩ := hW.a.at_.all
            clear hN
            by_cases hkl : k < p.links.length
            · obtain ⟨⟨xa, xb, xc⟩, hx⟩ : ∃ x, p.links[k]? = some x := ⟨_, List.getElem?_eq_getElem hkl⟩
              have hok := HLO.out _ (List.mem_of_getElem? hx)
              dsimp only at hok
              obtain ⟨xa, rfl⟩ : ∃ n : Nat, xa = n := ⟨xa.toNat, by omega⟩
              obtain ⟨xb, rfl⟩ : ∃ n : Nat, xb = n := ⟨xb.toNat, by omega⟩
              obtain ⟨bl, ol, el, hbl, q0, q1, q2⟩ := hW.a.at_.net.links.link hx
              have HX := Lib.hid hx
              rw [el] at c4
              have hxa : xa < p.nodes.length := by omega
              have hxb : xb < p.nodes.length := by omega
              have hda := hW.a.cell hxa
              have hdb := hW.a.cell hxb
              have hk0 : (0 : Int) ≤ (k : Int) := by omega
              have hk1 : (k : Int) < (p.links.length : Int) := by omega
              have UP : Hid (upB p f (k : Int) = !hasB f k) := Lib.hid (by unfold upB; simp [hkl])
              have W7 := Lib.hid (hW.call ((Below.refl _ _).alloc (Nat.le_refl _) (.cells #[.int .i64 (xa : Int), .int .i64 (xb : Int), .int .i64 xc] 44)))
              dsimp only at q0 q1 q2
              clear hx el hW hok
              have hg2 : g2 < wr.heap.size := by
                obtain ⟨g', off', cur, e', hh, _⟩ := WY.out.row.2.2.2.2.2 (by have := WY.out.row.2.1; omega)
                injection e' with e'
                injection e' with e1 e2
                subst e1
                exact lt_heap hh
              have hv0 : (wr.alloc (.cells #[.int .i64 (xa : Int), .int .i64 (xb : Int), .int .i64 xc] 44)).cell? ⟨wr.heap.size, 0, none⟩ = some (.int .i64 (xa : Int)) := by rw [World.cell?_alloc_new]; rfl
              have hv1 : (wr.alloc (.cells #[.int .i64 (xa : Int), .int .i64 (xb : Int), .int .i64 xc] 44)).cell? ⟨wr.heap.size, 1, none⟩ = some (.int .i64 (xb : Int)) := by rw [World.cell?_alloc_new]; rfl
              have hbk : wr.heap.size < (wr.alloc (.cells #[.int .i64 (xa : Int), .int .i64 (xb : Int), .int .i64 xc] 44)).heap.size := by simp
              have HV := Lib.hid (And.intro hv0 (And.intro hv1 hbk))
              clear hv0 hv1 hbk
              go_upto_region 16 with fail
              clear q0 q1 q2 c0 c1 c2 c3 c4 c5 c6 hda hdb hbl WY
              generalize (wr.alloc (.cells #[.int .i64 (xa : Int), .int .i64 (xb : Int), .int .i64 xc] 44)) = wl at *
              generalize wr.heap.size = bk at *
              have hne1 : bk ≠ g2 := by omega
              have hne2 : g2 ≠ bk := by omega
              obtain ⟨c0, c1, c2, c3, c4, c5, c6⟩ := W7.out.a.at_.all
              go_wp2_with fail
              refine (rup_any p h f k _ W7.out.a.at_.net).mono ?_
              rintro e' w8 ⟨rfl, hb8⟩
              rw [UP.out]
              have W8 := Lib.hid (W7.out.call hb8)
              have v0 : w8.cell? ⟨bk, 0, none⟩ = some (.int .i64 (xa : Int)) := (hb8.cell (p := ⟨bk, 0, none⟩) HV.out.2.2).trans HV.out.1
              have v1 : w8.cell? ⟨bk, 1, none⟩ = some (.int .i64 (xb : Int)) := (hb8.cell (p := ⟨bk, 1, none⟩) HV.out.2.2).trans HV.out.2.1
              have hxa0 : (0 : Int) ≤ (xa : Int) := by omega
              have hxb0 : (0 : Int) ≤ (xb : Int) := by omega
              have hxa1 : (xa : Int) < (p.nodes.length : Int) := by omega
              have hxb1 : (xb : Int) < (p.nodes.length : Int) := by omega
              clear hb8 c0 c1 c2 c3 c4 c5 c6 hg2
              cases hf : hasB f (k : Int) with
              | true =>
                have HM := Lib.hid (NX.out.miss HX.out (.inl hf))
                clear hf
                go_wp2_with fail
                go_roundw
                case rel => exact ⟨k + 1, e, by omega, by go_num, W8.out, HM.out⟩
                case measure => simp [intOf]; omega
              | false =>
              have ha := W8.out.a.cell hxa
              have hb := W8.out.a.cell hxb
              obtain ⟨r1, r2⟩ := W8.out.cell hxa
              have W9 := Lib.hid (W8.out.put HP.out hxa)
              obtain ⟨s1, s2⟩ := W9.out.cell hxb
              have W10 := Lib.hid (W9.out.put HP.out hxb)
              have hmiss : d xa = false → d xb = false → NextIs p.links f (k + 1) d e := fun h1 h2 => NX.out.miss HX.out (.inr (by simpa using ⟨h1, h2⟩))
              have hhit : d xa = true ∨ d xb = true → NextIs p.links f (k + 1) d (putB (putB e xa) xb) := fun h1 => by simpa using NX.out.hit HX.out hf (by simpa using h1)
              have HMI := Lib.hid hmiss
              have HHI := Lib.hid hhit
              clear hmiss hhit hf
              cases hda : d xa with
              | true =>
                rw [hda] at ha
                have HM := Lib.hid (HHI.out (.inl hda))
                clear hda
                go_wp2_with fail
                go_roundw
                case rel => exact ⟨k + 1, _, by omega, by go_num, W10.out, HM.out⟩
                case measure => simp [intOf]; omega
              | false =>
                rw [hda] at ha
                cases hdb : d xb with
                | true =>
                  rw [hdb] at hb
                  have HM := Lib.hid (HHI.out (.inr hdb))
                  clear hda hdb
                  go_wp2_with fail
                  go_roundw
                  case rel => exact ⟨k + 1, _, by omega, by go_num, W10.out, HM.out⟩
                  case measure => simp [intOf]; omega
                | false =>
                  rw [hdb] at hb
                  have HM := Lib.hid (HMI.out hda hdb)
                  clear hda hdb
                  go_wp2_with fail
                  go_roundw
                  case rel => exact ⟨k + 1, e, by omega, by go_num, W8.out, HM.out⟩
                  case measure => simp [intOf]; omega
            · have hkN : k = p.links.length := by omega
              subst hkN
              have hge : ¬ (p.links.length : Int) < (p.links.length : Int) := by omega
              clear hW hkl
              go_wp2_with fail
              go_meet
              case rel => exact ⟨e, WY.out, NX.out⟩
        case rest =>
        clear W6
        obtain ⟨e, hW, hN⟩ := hcut
        have WZ := Lib.hid hW
        have HI2 := Lib.hid (NextIs.round HLO.out HI.out hN)
        clear hW hN
        go_wp2_with fail
        go_roundw
        case rel => exact ⟨n + 1, e, g2, off2, e2, by omega, by go_num, rfl, ⟨WZ.out.a.at_, WZ.out.row⟩, HI2.out, HMS.out⟩
        case measure => simp [intOf]; omega
    · have hnN : n = p.nodes.length + 1 := by omega
      have hge : ¬ (n : Int) ≤ (p.nodes.length : Int) := by omega
      have HF := Lib.hid (HGO.out (-1) (hops_none HLO.out han (by have := HNO.out; rw [hnN] at this; exact this)))
      clear hnN
      go_wp2_with fail
      go_ret
      exact ⟨ret_int HF.out, WX.out.at_.below⟩
end
end Go.Proofs.Ytidmpfenkgihjaa

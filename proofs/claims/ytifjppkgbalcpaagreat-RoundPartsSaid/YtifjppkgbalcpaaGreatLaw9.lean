/- The example of backstaylaw09.awake, walked. What the walks of layer 9's statements share. -/
import Derived.Test.YtifjppkgbalcpaaGreatRoundW
import Derived.Test.YtifjppkgbalcpaaGreatRunX
import Derived.Test.YtifjppkgbalcpaaGreatRoundV
import Derived.Test.YtifjppkgbalcpaaGreatCarryH
import Derived.Test.YtifjppkgbalcpaaGreatNetB
import Derived.Test.YtifjppkgbalcpaaGreatApi
namespace Go.Proofs.YtifjppkgbalcpaaGreat
set_option linter.unusedSimpArgs false
set_option linter.unusedVariables false
open Go.RowKit

section
def h9 (n : Nat) : Hd := ⟨some ⟨n, 0, none⟩, 3, some ⟨n + 1, 0, none⟩, 2, some ⟨n + 1 + 1 + 1, 0, none⟩, 1, none, 0, [(some ⟨n + 1 + 1, 0, none⟩, 1)]⟩
def w9L (n : Nat) : List Obj := [.cells #[.string ⟨#[97]⟩, .int .i64 1, .string ⟨#[98]⟩, .int .i64 2, .string ⟨#[99]⟩, .int .i64 3] 55, .cells #[.int .i64 0, .int .i64 1, .int .i64 3, .int .i64 1, .int .i64 2, .int .i64 1] 57, .cells #[.int .i64 0] 3, .cells #[.string ⟨#[120]⟩, .slice (some ⟨n + 1 + 1, 0, none⟩) 1 1] 52]
theorem net9 {w wr : World} (a : Bl w wr (w9L w.heap.size)) : NetR wr wr.heap.size pc10 (h9 w.heap.size) := by
  refine ⟨?_, ?_, ?_, ?_, ?_, ?_⟩
  · exact a.rd (i := 0) (m := 3) (s := 2) rfl rfl
  · exact a.rd (i := 1) (m := 2) (s := 3) rfl rfl
  · rfl
  · exact a.rd (i := 3) (m := 1) (s := 2) rfl rfl
  · intro z hz
    simp [pc10, h9] at hz
    subst hz
    exact a.rd (i := 2) (m := 1) (s := 1) rfl rfl
  · exact Rd.nil _
theorem below9 (w : World) : Bl w ((((w.alloc (.cells #[.string ⟨#[97]⟩, .int .i64 1, .string ⟨#[98]⟩, .int .i64 2, .string ⟨#[99]⟩, .int .i64 3] 55)).alloc (.cells #[.int .i64 0, .int .i64 1, .int .i64 3, .int .i64 1, .int .i64 2, .int .i64 1] 57)).alloc (.cells #[.int .i64 0] 3)).alloc (.cells #[.string ⟨#[120]⟩, .slice (some ⟨w.heap.size + 1 + 1, 0, none⟩) 1 1] 52)) (w9L w.heap.size) :=
  (((((Bl.begin w).push (by simp) _).push (by simp) _).push (by simp) _).push (by simp) _)

attribute [local go_sem ↓] Go.wp_at_zero Go.wp_at_succ
set_option maxRecDepth 100000 in
set_option maxHeartbeats 4000000 in
theorem awake9 (w : World) : Calls Tryz.prog 9 #[] w fun e w' => e = .returned (.bool true) ∧ Below w.heap.size w w' := by
  go_enter Tryz.func9, Tryz.ntmps9
  go_upto_region 2 with fail
  have P1 : Hid (PB w (((((w.alloc (.cells #[.string ⟨#[97]⟩, .int .i64 1, .string ⟨#[98]⟩, .int .i64 2, .string ⟨#[99]⟩, .int .i64 3] 55)).alloc (.cells #[.int .i64 0, .int .i64 1, .int .i64 3, .int .i64 1, .int .i64 2, .int .i64 1] 57)).alloc (.cells #[.int .i64 0] 3)).alloc (.cells #[.string ⟨#[120]⟩, .slice (some ⟨w.heap.size + 1 + 1, 0, none⟩) 1 1] 52)).alloc (.cells #[.int .i64 1, .int .i64 0, .int .i64 0, .slice (some ⟨w.heap.size, 0, none⟩) 3 3, .slice (some ⟨w.heap.size + 1, 0, none⟩) 2 2, .slice (some ⟨w.heap.size + 1 + 1 + 1, 0, none⟩) 1 1, .slice none 0 0] 29)) (w.heap.size + 1 + 1 + 1 + 1) pc10 (h9 w.heap.size)) := Lib.hid (by
    have e : (((((w.alloc (.cells #[.string ⟨#[97]⟩, .int .i64 1, .string ⟨#[98]⟩, .int .i64 2, .string ⟨#[99]⟩, .int .i64 3] 55)).alloc (.cells #[.int .i64 0, .int .i64 1, .int .i64 3, .int .i64 1, .int .i64 2, .int .i64 1] 57)).alloc (.cells #[.int .i64 0] 3)).alloc (.cells #[.string ⟨#[120]⟩, .slice (some ⟨w.heap.size + 1 + 1, 0, none⟩) 1 1] 52))).heap.size = w.heap.size + 1 + 1 + 1 + 1 := by simp
    rw [← e]
    exact PB.begin (below9 w).below (net9 (below9 w)))
  generalize (((((w.alloc (.cells #[.string ⟨#[97]⟩, .int .i64 1, .string ⟨#[98]⟩, .int .i64 2, .string ⟨#[99]⟩, .int .i64 3] 55)).alloc (.cells #[.int .i64 0, .int .i64 1, .int .i64 3, .int .i64 1, .int .i64 2, .int .i64 1] 57)).alloc (.cells #[.int .i64 0] 3)).alloc (.cells #[.string ⟨#[120]⟩, .slice (some ⟨w.heap.size + 1 + 1, 0, none⟩) 1 1] 52)).alloc (.cells #[.int .i64 1, .int .i64 0, .int .i64 0, .slice (some ⟨w.heap.size, 0, none⟩) 3 3, .slice (some ⟨w.heap.size + 1, 0, none⟩) 2 2, .slice (some ⟨w.heap.size + 1 + 1 + 1, 0, none⟩) 1 1, .slice none 0 0] 29)) = x1 at *
  generalize w.heap.size + 1 + 1 + 1 + 1 = b1 at *
  generalize h9 w.heap.size = hv at *
  obtain ⟨v0, v1, v2, v3, v4, v5, v6⟩ := P1.out.all
  go_wp2_with fail
  refine (start_any pc10 hv 0 _ P1.out.net good_c10 rfl).mono ?_
  rintro e w2 ⟨Zs, As, cs, rfl, hZ, hL⟩
  have P2 := Lib.hid (P1.out.call hL.below)
  have Rs2 := Lib.hid hL.rts
  have HZs := Lib.hid (hZ.trans run10_0)
  have hl3 : Zs.length = 3 := by have := congrArg List.length (hZ.trans run10_0); simpa using this
  rw [hl3]
  have HLs := Lib.hid hl3
  clear hZ hL hl3 v0 v1 v2 v3 v4 v5 v6
  obtain ⟨v0, v1, v2, v3, v4, v5, v6⟩ := P2.out.all
  have CS : Hid (∀ (l : St) (Z : List RtZ) (A : Option Addr) (c : Nat) wy, NetR wy wy.heap.size pc10 hv → RtsR wy wy.heap.size Z A → Z.map (·.1) = stL pc10 l → FitsF pc10 l → Z.length = 3 → Calls Tryz.prog 18 #[netV pc10 hv, .int .i64 0, .int .i64 0, .slice A 3 c] wy (StsPost wy (stL pc10 (stepF pc10 0 0 l)))) := Lib.hid (fun l Z A c wy hn hr hz hf h3 => by
    have := stepR_any pc10 hv 0 0 l Z A c wy hn good_c10 rfl hr hz hf
    rwa [h3] at this)
  go_wp2_with fail
  refine (CS.out (startF pc10 0) Zs As cs _ P2.out.net Rs2.out (HZs.out.trans run10_0.symm) (start_fits good_c10.netG) HLs.out).mono ?_
  rintro e w3 ⟨Zl, Al, cl, rfl, hZ, hL⟩
  have P3 := Lib.hid (P2.out.call hL.below)
  have Rs3 := Lib.hid (Rs2.out.call hL.below)
  have Rl3 := Lib.hid hL.rts
  have HZl := Lib.hid (hZ.trans run10_1)
  have hl3 : Zl.length = 3 := by have := congrArg List.length (hZ.trans run10_1); simpa using this
  rw [hl3]
  have HLl := Lib.hid hl3
  clear hZ hL hl3 v0 v1 v2 v3 v4 v5 v6
  obtain ⟨v0, v1, v2, v3, v4, v5, v6⟩ := P3.out.all
  go_wp2_with fail
  refine (runX_any pc10 hv 0 0 2 (by omega) _ P3.out.net good_c10 rfl).mono ?_
  rintro e w4 ⟨Zm, Am, cm, rfl, hZ, hL⟩
  have P4 := Lib.hid (P3.out.call hL.below)
  have Rs4 := Lib.hid (Rs3.out.call hL.below)
  have Rl4 := Lib.hid (Rl3.out.call hL.below)
  have Rm4 := Lib.hid hL.rts
  have HZm := Lib.hid (hZ.trans run10_2)
  have hl3 : Zm.length = 3 := by have := congrArg List.length (hZ.trans run10_2); simpa using this
  rw [hl3]
  have HLm := Lib.hid hl3
  clear hZ hL hl3 v0 v1 v2 v3 v4 v5 v6
  obtain ⟨v0, v1, v2, v3, v4, v5, v6⟩ := P4.out.all
  go_wp2_with fail
  refine (runX_any pc10 hv 2 0 9 (by omega) _ P4.out.net good_c10 rfl).mono ?_
  rintro e w5 ⟨Zn, An, cn, rfl, hZ, hL⟩
  have P5 := Lib.hid (P4.out.call hL.below)
  have Rs5 := Lib.hid (Rs4.out.call hL.below)
  have Rl5 := Lib.hid (Rl4.out.call hL.below)
  have Rm5 := Lib.hid (Rm4.out.call hL.below)
  have Rn5 := Lib.hid hL.rts
  have HZn := Lib.hid (hZ.trans run10_g)
  have hl3 : Zn.length = 3 := by have := congrArg List.length (hZ.trans run10_g); simpa using this
  rw [hl3]
  have HLn := Lib.hid hl3
  clear hZ hL hl3 v0 v1 v2 v3 v4 v5 v6
  obtain ⟨v0, v1, v2, v3, v4, v5, v6⟩ := P5.out.all
  obtain ⟨zs0, hz⟩ : ∃ z, Zs[0]? = some z := ⟨_, List.getElem?_eq_getElem (by have := HLs.out; omega)⟩
  have hzz : zs0.1 = ⟨1, 0, []⟩ := by
    have h1 : (Zs.map (·.1))[0]? = some zs0.1 := by rw [List.getElem?_map, hz]; rfl
    rw [HZs.out] at h1
    simpa using h1.symm
  obtain ⟨bs, os, es0, -, xs0, ys0, -⟩ := Rs5.out.at_ hz
  rw [hzz] at xs0 ys0
  simp only [Nat.reduceMul, Nat.zero_mul, Nat.add_zero] at xs0 ys0
  clear hz hzz
  subst es0
  obtain ⟨zs1, hz⟩ : ∃ z, Zs[1]? = some z := ⟨_, List.getElem?_eq_getElem (by have := HLs.out; omega)⟩
  have hzz : zs1.1 = ⟨0, 0, []⟩ := by
    have h1 : (Zs.map (·.1))[1]? = some zs1.1 := by rw [List.getElem?_map, hz]; rfl
    rw [HZs.out] at h1
    simpa using h1.symm
  obtain ⟨b', o', es1, -, xs1, ys1, -⟩ := Rs5.out.at_ hz
  rw [hzz] at xs1 ys1
  simp only [Nat.reduceMul, Nat.zero_mul, Nat.add_zero] at xs1 ys1
  clear hz hzz
  injection es1 with e1
  injection e1 with e1 e2
  subst e1 e2
  obtain ⟨zl1, hz⟩ : ∃ z, Zl[1]? = some z := ⟨_, List.getElem?_eq_getElem (by have := HLl.out; omega)⟩
  have hzz : zl1.1 = ⟨1, 3, []⟩ := by
    have h1 : (Zl.map (·.1))[1]? = some zl1.1 := by rw [List.getElem?_map, hz]; rfl
    rw [HZl.out] at h1
    simpa using h1.symm
  obtain ⟨bl, ol, el1, -, xl1, yl1, -⟩ := Rl5.out.at_ hz
  rw [hzz] at xl1 yl1
  simp only [Nat.reduceMul, Nat.zero_mul, Nat.add_zero] at xl1 yl1
  clear hz hzz
  subst el1
  obtain ⟨zl2, hz⟩ : ∃ z, Zl[2]? = some z := ⟨_, List.getElem?_eq_getElem (by have := HLl.out; omega)⟩
  have hzz : zl2.1 = ⟨0, 0, []⟩ := by
    have h1 : (Zl.map (·.1))[2]? = some zl2.1 := by rw [List.getElem?_map, hz]; rfl
    rw [HZl.out] at h1
    simpa using h1.symm
  obtain ⟨b', o', el2, -, xl2, yl2, -⟩ := Rl5.out.at_ hz
  rw [hzz] at xl2 yl2
  simp only [Nat.reduceMul, Nat.zero_mul, Nat.add_zero] at xl2 yl2
  clear hz hzz
  injection el2 with e1
  injection e1 with e1 e2
  subst e1 e2
  obtain ⟨zm2, hz⟩ : ∃ z, Zm[2]? = some z := ⟨_, List.getElem?_eq_getElem (by have := HLm.out; omega)⟩
  have hzz : zm2.1 = ⟨1, 4, []⟩ := by
    have h1 : (Zm.map (·.1))[2]? = some zm2.1 := by rw [List.getElem?_map, hz]; rfl
    rw [HZm.out] at h1
    simpa using h1.symm
  obtain ⟨bm, om, em2, -, xm2, ym2, -⟩ := Rm5.out.at_ hz
  rw [hzz] at xm2 ym2
  simp only [Nat.reduceMul, Nat.zero_mul, Nat.add_zero] at xm2 ym2
  clear hz hzz
  subst em2
  obtain ⟨zn1, hz⟩ : ∃ z, Zn[1]? = some z := ⟨_, List.getElem?_eq_getElem (by have := HLn.out; omega)⟩
  have hzz : zn1.1 = ⟨1, 3, []⟩ := by
    have h1 : (Zn.map (·.1))[1]? = some zn1.1 := by rw [List.getElem?_map, hz]; rfl
    rw [HZn.out] at h1
    simpa using h1.symm
  obtain ⟨bn, on, en1, -, xn1, yn1, -⟩ := Rn5.out.at_ hz
  rw [hzz] at xn1 yn1
  simp only [Nat.reduceMul, Nat.zero_mul, Nat.add_zero] at xn1 yn1
  clear hz hzz
  subst en1
  obtain ⟨zn2, hz⟩ : ∃ z, Zn[2]? = some z := ⟨_, List.getElem?_eq_getElem (by have := HLn.out; omega)⟩
  have hzz : zn2.1 = ⟨0, 0, []⟩ := by
    have h1 : (Zn.map (·.1))[2]? = some zn2.1 := by rw [List.getElem?_map, hz]; rfl
    rw [HZn.out] at h1
    simpa using h1.symm
  obtain ⟨b', o', en2, -, xn2, yn2, -⟩ := Rn5.out.at_ hz
  rw [hzz] at xn2 yn2
  simp only [Nat.reduceMul, Nat.zero_mul, Nat.add_zero] at xn2 yn2
  clear hz hzz
  injection en2 with e1
  injection e1 with e1 e2
  subst e1 e2
  have CF : Hid (∀ (l : St) (Z : List RtZ) (A : Option Addr) (c : Nat) wy, NetR wy wy.heap.size pc10 hv → RtsR wy wy.heap.size Z A → Z.map (·.1) = stL pc10 l → FitsF pc10 l → Z.length = 3 → Calls Tryz.prog 23 #[netV pc10 hv, .slice A 3 c] wy fun e w' => e = .returned (.bool true) ∧ Below wy.heap.size wy w') := Lib.hid (fun l Z A c wy hn hr hz hf h3 => by
    have := fitsR_any pc10 hv l Z A c wy hn good_c10 hr hz hf
    rwa [h3] at this)
  have CM : Hid (∀ (Z Y : List RtZ) (A A' : Option Addr) (c c' : Nat) wy, RtsR wy wy.heap.size Z A → RtsR wy wy.heap.size Y A' → Z.length = 3 → Y.length = 3 → Calls Tryz.prog 20 #[.slice A 3 c, .slice A' 3 c'] wy fun e w' => e = .returned (.bool (decide (Z.map (·.1) = Y.map (·.1)))) ∧ Below wy.heap.size wy w') := Lib.hid (fun Z Y A A' c c' wy h1 h2 h3 h4 => by
    have := sameR_any Z Y A A' c c' wy h1 h2 (by omega) (by omega)
    rwa [h3, h4] at this)
  go_wp2_with fail
  refine (CF.out (runF pc10 0 0 2) Zm _ cm _ P5.out.net Rm5.out (HZm.out.trans run10_2.symm) (run_fits good_c10.netG 2) HLm.out).mono ?_
  rintro e w6 ⟨rfl, hb6⟩
  have P6 := Lib.hid (P5.out.call hb6)
  have Rm6 := Lib.hid (Rm5.out.call hb6)
  have Rl6 := Lib.hid (Rl5.out.call hb6)
  clear hb6 v0 v1 v2 v3 v4 v5 v6
  obtain ⟨v0, v1, v2, v3, v4, v5, v6⟩ := P6.out.all
  go_wp2_with fail
  refine (CS.out (runF pc10 0 0 2) Zm _ cm _ P6.out.net Rm6.out (HZm.out.trans run10_2.symm) (run_fits good_c10.netG 2) HLm.out).mono ?_
  rintro e w7 ⟨Zt, At, ct, rfl, hZ, hL⟩
  have P7 := Lib.hid (P6.out.call hL.below)
  have Rm7 := Lib.hid (Rm6.out.call hL.below)
  have Rl7 := Lib.hid (Rl6.out.call hL.below)
  have Rt7 := Lib.hid hL.rts
  have HZt := Lib.hid (hZ.trans run10_3)
  have hl3 : Zt.length = 3 := by have := congrArg List.length (hZ.trans run10_3); simpa using this
  rw [hl3]
  have HLt := Lib.hid hl3
  clear hZ hL hl3 v0 v1 v2 v3 v4 v5 v6
  go_wp2_with fail
  refine (CM.out Zm Zt _ _ cm ct _ Rm7.out Rt7.out HLm.out HLt.out).mono ?_
  rintro e w8 ⟨rfl, hb8⟩
  rw [HZm.out, HZt.out]
  have P8 := Lib.hid (P7.out.call hb8)
  have Rm8 := Lib.hid (Rm7.out.call hb8)
  have Rl8 := Lib.hid (Rl7.out.call hb8)
  clear hb8
  have hd1 : decide (([⟨1, 0, []⟩, ⟨1, 3, []⟩, ⟨1, 4, []⟩] : List Rt) = [⟨1, 0, []⟩, ⟨1, 3, []⟩, ⟨1, 4, []⟩]) = true := decide_eq_true rfl
  rw [hd1]
  clear hd1
  go_wp2_with fail
  refine (CM.out Zl Zm _ _ cl cm _ Rl8.out Rm8.out HLl.out HLm.out).mono ?_
  rintro e w9 ⟨rfl, hb9⟩
  rw [HZl.out, HZm.out]
  have hd1 : decide (([⟨1, 0, []⟩, ⟨1, 3, []⟩, ⟨0, 0, []⟩] : List Rt) = [⟨1, 0, []⟩, ⟨1, 3, []⟩, ⟨1, 4, []⟩]) = false := decide_eq_false (by simp)
  rw [hd1]
  clear hd1
  have B9 := Lib.hid (since_trans P8.out.below hb9)
  clear hb9
  go_wp2
  go_ret
  exact ⟨rfl, B9.out⟩
end

section
theorem pick9_any (c n : Int) (w : World) (hc : In64 c) (hn : 0 < n) (hn2 : n < 10000000000) : Calls Tryz.prog 11 #[.int .i64 c, .int .i64 n] w fun e w' => e = .returned (.int .i64 (pickV c n)) ∧ w = w' := by
  obtain ⟨h1, h2⟩ := hc
  have hn0 : n ≠ 0 := by omega
  by_cases h : c < 0
  · have HN := Lib.hid (show pickV c n = Int.tmod (-(c + 1)) n from by unfold pickV; rw [if_pos h, Int.tmod_eq_emod_of_nonneg (by omega)])
    go_enter Tryz.func11, Tryz.ntmps11
    go_wp2
    go_ret
    exact ⟨ret_int (by rw [HN.out, Int.neg_tmod]), rfl⟩
  · have HN := Lib.hid (show pickV c n = c % n from by unfold pickV; rw [if_neg h])
    go_enter Tryz.func11, Tryz.ntmps11
    go_wp2
    go_ret
    exact ⟨ret_int (by rw [HN.out]), rfl⟩
/-- A network in a box, and a list of routes, which read. -/
structure NR (w0 wr : World) (b : Nat) (p : Net) (h : Hd) (Z : List RtZ) (A : Option Addr) : Prop where
  nw : NW w0 wr b p h []
  rts : RtsR wr wr.heap.size Z A
section
variable {w0 wr w' : World} {b : Nat} {p : Net} {h : Hd} {Z : List RtZ} {A : Option Addr}
theorem NR.call (a : NR w0 wr b p h Z A) (hb : Below wr.heap.size wr w') : NR w0 w' b p h Z A := ⟨a.nw.call hb, a.rts.call hb⟩
theorem NR.drew (a : NR w0 wr b p h Z A) : NR w0 wr.drew b p h Z A := a.call (below_drew (Below.refl _ _))
/-- Routes are handed back, and a network and routes still read. -/
def NRPost (w0 : World) (b : Nat) (p : Net) (h : Hd) (Z : List RtZ) (A : Option Addr) (L : List Rt) (e : Ending) (w' : World) : Prop :=
  ∃ (X : List RtZ) (A5 : Option Addr) (c5 : Nat), e = .returned (.slice A5 X.length c5) ∧ X.map (·.1) = L ∧ RtsR w' w'.heap.size X A5 ∧ NR w0 w' b p h Z A
theorem NR.post {L : List Rt} {e : Ending} (a : NR w0 wr b p h Z A) (hp : StsPost wr L e w') : NRPost w0 b p h Z A L e w' := by
  obtain ⟨X, A5, c5, h1, h2, h3⟩ := hp
  exact ⟨X, A5, c5, h1, h2, h3.rts, a.call h3.below⟩
end
theorem has511 : ∀ k : Fin 9, hasB 511 ((k.val : Nat) : Int) = true := by decide +kernel
/-- No link of nine stands behind all of them. -/
theorem ar_511 {L : List Lk} (h : L.length ≤ 9) (i : Int) : arL L 511 i L.length = [] := by
  unfold arL
  refine List.filter_eq_nil_iff.2 fun k hk => ?_
  have hk := List.mem_range.1 hk
  have := has511 ⟨k, by omega⟩
  unfold isAr
  rw [List.getElem?_eq_getElem hk]
  simp only at this ⊢
  simp [this]
theorem alone_step {p : Net} (G : NetG p) (h : p.links.length ≤ 9) (d : Int) (l : St) : stepF p 511 d l = startF p d := by
  funext i
  exact step_alone G (ar_511 h i) l
theorem alone_run {p : Net} (G : NetG p) (h : p.links.length ≤ 9) (d : Int) : ∀ r, runF p 511 d r = startF p d
  | 0 => rfl
  | r + 1 => by show stepF p 511 d (runF p 511 d r) = _; exact alone_step G h d _
end
end Go.Proofs.YtifjppkgbalcpaaGreat

/- The walk of backstaylaw06.awake. -/
import Derived.Test.YtidmpfenkgihjaaDoorAttrB
import Derived.Test.YtidmpfenkgihjaaDoorAttrP
import Derived.Test.YtidmpfenkgihjaaDoorAttrX
namespace Go.Proofs.YtidmpfenkgihjaaDoor
set_option linter.unusedSimpArgs false
set_option linter.unusedVariables false
open Go.RowKit

theorem bytes_ext {a b : ByteArray} (h : a.data.toList = b.data.toList) : a = b := by
  obtain ⟨⟨a⟩⟩ := a; obtain ⟨⟨b⟩⟩ := b; simp at h; rw [h]
def ra : Rt := ⟨2, 0, [7, 9]⟩
def rb : Rt := ⟨2, 0, [9, 7]⟩
def rc : Rt := ⟨2, 0, [9]⟩
def rv : Rt := ⟨1, 15, []⟩
/-- The world of awake, behind its four routes. -/
def awW (w : World) : World := ((((((w.alloc (.cells #[.int .i64 7, .int .i64 9] 3)).alloc (.cells #[.int .i64 2, .int .i64 0, .slice (some ⟨w.heap.size, 0, none⟩) 2 2] 41)).alloc (.cells #[.int .i64 9, .int .i64 7] 3)).alloc
  (.cells #[.int .i64 2, .int .i64 0, .slice (some ⟨w.heap.size + 1 + 1, 0, none⟩) 2 2] 41)).alloc (.cells #[.int .i64 9] 3)).alloc (.cells #[.int .i64 2, .int .i64 0, .slice (some ⟨w.heap.size + 1 + 1 + 1 + 1, 0, none⟩) 1 1] 41)).alloc (.cells #[.int .i64 1, .int .i64 15, .slice none 0 0] 41)
theorem awW_below (w : World) : Below w.heap.size w (awW w) := by
  unfold awW
  exact ((((((( Below.refl _ _).alloc (Nat.le_refl _) _).alloc (by simp) _).alloc (by simp; omega) _).alloc (by simp; omega) _).alloc (by simp; omega) _).alloc (by simp; omega) _).alloc (by simp; omega) _
theorem awW_size (w : World) : (awW w).heap.size = w.heap.size + 7 := by simp [awW]
theorem cell_alloc_if (W : World) (cs : Array Value) (t : TypeId) (b i : Nat) : (W.alloc (.cells cs t)).cell? ⟨b, i, none⟩ = if b = W.heap.size then cs[i]? else W.cell? ⟨b, i, none⟩ := by
  by_cases h : b = W.heap.size
  · subst h; rw [if_pos rfl, World.cell?_alloc_new]
  · rw [if_neg h]
    by_cases h' : b < W.heap.size
    · exact World.cell?_alloc_lt W _ ⟨b, i, none⟩ h'
    · have h1 : (W.alloc (.cells cs t)).heap[b]? = none := Array.getElem?_eq_none (by simp; omega)
      have h2 : W.heap[b]? = none := Array.getElem?_eq_none (by omega)
      simp [World.cell?, h1, h2]
theorem awW_cell (w : World) : (awW w).cell? ⟨w.heap.size + 1, 0, none⟩ = some (.int .i64 2) ∧ (awW w).cell? ⟨w.heap.size + 1, 1, none⟩ = some (.int .i64 0) ∧ (awW w).cell? ⟨w.heap.size + 1, 2, none⟩ = some (.slice (some ⟨w.heap.size, 0, none⟩) 2 2) ∧
    (awW w).cell? ⟨w.heap.size + 1 + 1 + 1, 0, none⟩ = some (.int .i64 2) ∧ (awW w).cell? ⟨w.heap.size + 1 + 1 + 1, 1, none⟩ = some (.int .i64 0) ∧ (awW w).cell? ⟨w.heap.size + 1 + 1 + 1, 2, none⟩ = some (.slice (some ⟨w.heap.size + 1 + 1, 0, none⟩) 2 2) ∧
    (awW w).cell? ⟨w.heap.size + 1 + 1 + 1 + 1 + 1, 0, none⟩ = some (.int .i64 2) ∧ (awW w).cell? ⟨w.heap.size + 1 + 1 + 1 + 1 + 1, 1, none⟩ = some (.int .i64 0) ∧ (awW w).cell? ⟨w.heap.size + 1 + 1 + 1 + 1 + 1, 2, none⟩ = some (.slice (some ⟨w.heap.size + 1 + 1 + 1 + 1, 0, none⟩) 1 1) ∧
    (awW w).cell? ⟨w.heap.size + 1 + 1 + 1 + 1 + 1 + 1, 0, none⟩ = some (.int .i64 1) ∧ (awW w).cell? ⟨w.heap.size + 1 + 1 + 1 + 1 + 1 + 1, 1, none⟩ = some (.int .i64 15) ∧ (awW w).cell? ⟨w.heap.size + 1 + 1 + 1 + 1 + 1 + 1, 2, none⟩ = some (.slice none 0 0) := by
  refine ⟨?_, ?_, ?_, ?_, ?_, ?_, ?_, ?_, ?_, ?_, ?_, ?_⟩ <;> simp [awW, cell_alloc_if]
theorem awW_rows (w : World) : Rd (awW w) (awW w).heap.size 1 (some ⟨w.heap.size, 0, none⟩) 2 (ints [7, 9]) ∧ Rd (awW w) (awW w).heap.size 1 (some ⟨w.heap.size + 1 + 1, 0, none⟩) 2 (ints [9, 7]) ∧ Rd (awW w) (awW w).heap.size 1 (some ⟨w.heap.size + 1 + 1 + 1 + 1, 0, none⟩) 1 (ints [9]) := by
  have hs := awW_size w
  have key : ∀ (j : Nat) (u : Value) (b : Nat) (l : List Value), l[j]? = some u → (∀ i, i < l.length → (awW w).cell? ⟨b, 0 + i, none⟩ = l[i]?) → (awW w).cell? ⟨b, 0 + j, none⟩ = some u := by
    intro j u b l hu h
    rw [h j (List.getElem?_eq_some_iff.1 hu).1, hu]
  refine ⟨⟨rfl, fun _ => ⟨_, 0, rfl, by omega, fun j u hu => key j u _ _ hu fun i hi => ?_⟩⟩, ⟨rfl, fun _ => ⟨_, 0, rfl, by omega, fun j u hu => key j u _ _ hu fun i hi => ?_⟩⟩, ⟨rfl, fun _ => ⟨_, 0, rfl, by omega, fun j u hu => key j u _ _ hu fun i hi => ?_⟩⟩⟩
  · have hi' : i = 0 ∨ i = 1 := by simp [ints] at hi; omega
    rcases hi' with rfl | rfl <;> simp [awW, cell_alloc_if, ints] <;> (repeat rw [if_neg (by omega)])
  · have hi' : i = 0 ∨ i = 1 := by simp [ints] at hi; omega
    rcases hi' with rfl | rfl <;> simp [awW, cell_alloc_if, ints]
  · have hi' : i = 0 := by simp [ints] at hi; omega
    subst hi'
    simp [awW, cell_alloc_if, ints]
theorem awW_rt (w wy : World) (hb : Below (awW w).heap.size (awW w) wy) : RtR wy wy.heap.size ra (some ⟨w.heap.size, 0, none⟩) 2 ∧ RtR wy wy.heap.size rb (some ⟨w.heap.size + 1 + 1, 0, none⟩) 2 ∧ RtR wy wy.heap.size rc (some ⟨w.heap.size + 1 + 1 + 1 + 1, 0, none⟩) 1 ∧ RtR wy wy.heap.size rv none 0 ∧ RtR wy wy.heap.size rtNone none 0 := by
  obtain ⟨h1, h2, h3⟩ := awW_rows w
  refine ⟨⟨(h1.below hb (Nat.le_refl _)).more hb.size, Nat.le_refl 2, by decide⟩, ⟨(h2.below hb (Nat.le_refl _)).more hb.size, Nat.le_refl 2, by decide⟩, ⟨(h3.below hb (Nat.le_refl _)).more hb.size, Nat.le_refl 1, by decide⟩, ⟨Rd.nil _, Nat.le_refl 0, by decide⟩, ⟨Rd.nil _, Nat.le_refl 0, by decide⟩⟩

set_option maxRecDepth 100000 in
set_option maxHeartbeats 8000000 in
theorem awake6 (w : World) (ht : Tab w) : Calls Tryd.prog 14 #[] w fun e w' => e = .returned (.bool true) ∧ Below w.heap.size w w' := by
  have HS0 := Lib.hid (awW_below w)
  have HZ := Lib.hid (awW_size w)
  have HC := Lib.hid (fun (wy : World) (hb : Below (awW w).heap.size (awW w) wy) => (show wy.cell? ⟨w.heap.size + 1, 0, none⟩ = some (.int .i64 2) ∧ wy.cell? ⟨w.heap.size + 1, 1, none⟩ = some (.int .i64 0) ∧ wy.cell? ⟨w.heap.size + 1, 2, none⟩ = some (.slice (some ⟨w.heap.size, 0, none⟩) 2 2) ∧
    wy.cell? ⟨w.heap.size + 1 + 1 + 1, 0, none⟩ = some (.int .i64 2) ∧ wy.cell? ⟨w.heap.size + 1 + 1 + 1, 1, none⟩ = some (.int .i64 0) ∧ wy.cell? ⟨w.heap.size + 1 + 1 + 1, 2, none⟩ = some (.slice (some ⟨w.heap.size + 1 + 1, 0, none⟩) 2 2) ∧
    wy.cell? ⟨w.heap.size + 1 + 1 + 1 + 1 + 1, 0, none⟩ = some (.int .i64 2) ∧ wy.cell? ⟨w.heap.size + 1 + 1 + 1 + 1 + 1, 1, none⟩ = some (.int .i64 0) ∧ wy.cell? ⟨w.heap.size + 1 + 1 + 1 + 1 + 1, 2, none⟩ = some (.slice (some ⟨w.heap.size + 1 + 1 + 1 + 1, 0, none⟩) 1 1) ∧
    wy.cell? ⟨w.heap.size + 1 + 1 + 1 + 1 + 1 + 1, 0, none⟩ = some (.int .i64 1) ∧ wy.cell? ⟨w.heap.size + 1 + 1 + 1 + 1 + 1 + 1, 1, none⟩ = some (.int .i64 15) ∧ wy.cell? ⟨w.heap.size + 1 + 1 + 1 + 1 + 1 + 1, 2, none⟩ = some (.slice none 0 0) from by
      obtain ⟨d0, d1, d2, d3, d4, d5, d6, d7, d8, d9, d10, d11⟩ := awW_cell w
      have k : ∀ (i j : Nat) (v : Value), i < w.heap.size + 7 → (awW w).cell? ⟨i, j, none⟩ = some v → wy.cell? ⟨i, j, none⟩ = some v := fun i j v hi hc => (hb.cell (p := ⟨i, j, none⟩) (by rw [HZ.out]; exact hi)).trans hc
      exact ⟨k _ _ _ (by omega) d0, k _ _ _ (by omega) d1, k _ _ _ (by omega) d2, k _ _ _ (by omega) d3, k _ _ _ (by omega) d4, k _ _ _ (by omega) d5, k _ _ _ (by omega) d6, k _ _ _ (by omega) d7, k _ _ _ (by omega) d8, k _ _ _ (by omega) d9, k _ _ _ (by omega) d10, k _ _ _ (by omega) d11⟩))
  have HR := Lib.hid (awW_rt w)
  have HT := Lib.hid (fun (wy : World) (hb : Below (awW w).heap.size (awW w) wy) => ht.below ((awW_below w).trans (hb.mono (awW_below w).size)) (Nat.le_refl _))
  have P1 := Lib.hid (fun (wy : World) (hb : Below (awW w).heap.size (awW w) wy) => (show Calls Tryd.prog 18 #[.agg #[.int .i64 2, .int .i64 0, .slice (some ⟨w.heap.size, 0, none⟩) 2 2]] wy fun e w' => e = .returned (.string ⟨#[91, 55, 32, 57, 93]⟩) ∧ Below wy.heap.size wy w' from
    (print_any ra _ _ wy (HR.out wy hb).1 (HT.out wy hb) (by decide) (by decide) (by decide)).mono fun e w' ⟨s, h1, h2, h3⟩ => ⟨by rw [h1]; congr 2; apply bytes_ext; rw [h2]; decide +kernel, h3⟩))
  have P2 := Lib.hid (fun (wy : World) (hb : Below (awW w).heap.size (awW w) wy) => (show Calls Tryd.prog 18 #[.agg #[.int .i64 0, .int .i64 0, .slice none 0 0]] wy fun e w' => e = .returned (.string ⟨#[45]⟩) ∧ Below wy.heap.size wy w' from
    (print_any rtNone _ _ wy (HR.out wy hb).2.2.2.2 (HT.out wy hb) (by decide) (by decide) (by decide)).mono fun e w' ⟨s, h1, h2, h3⟩ => ⟨by rw [h1]; congr 2; apply bytes_ext; rw [h2]; decide +kernel, h3⟩))
  have B1 := Lib.hid (fun (wy : World) (hb : Below (awW w).heap.size (awW w) wy) => (show Calls Tryd.prog 24 #[.agg #[.int .i64 2, .int .i64 0, .slice (some ⟨w.heap.size + 1 + 1 + 1 + 1, 0, none⟩) 1 1], .agg #[.int .i64 2, .int .i64 0, .slice (some ⟨w.heap.size, 0, none⟩) 2 2]] wy fun e w' => e = .returned (.bool true) ∧ Below wy.heap.size wy w' from
    (better_rt rc ra _ _ _ _ wy (HR.out wy hb).2.2.1 (HR.out wy hb).1).mono fun e w' ⟨h1, h2⟩ => ⟨by rw [h1]; rfl, h2⟩))
  have B2 := Lib.hid (fun (wy : World) (hb : Below (awW w).heap.size (awW w) wy) => (show Calls Tryd.prog 24 #[.agg #[.int .i64 2, .int .i64 0, .slice (some ⟨w.heap.size, 0, none⟩) 2 2], .agg #[.int .i64 2, .int .i64 0, .slice (some ⟨w.heap.size + 1 + 1, 0, none⟩) 2 2]] wy fun e w' => e = .returned (.bool true) ∧ Below wy.heap.size wy w' from
    (better_rt ra rb _ _ _ _ wy (HR.out wy hb).1 (HR.out wy hb).2.1).mono fun e w' ⟨h1, h2⟩ => ⟨by rw [h1]; rfl, h2⟩))
  have B3 := Lib.hid (fun (wy : World) (hb : Below (awW w).heap.size (awW w) wy) => (show Calls Tryd.prog 24 #[.agg #[.int .i64 2, .int .i64 0, .slice (some ⟨w.heap.size, 0, none⟩) 2 2], .agg #[.int .i64 2, .int .i64 0, .slice (some ⟨w.heap.size, 0, none⟩) 2 2]] wy fun e w' => e = .returned (.bool false) ∧ Below wy.heap.size wy w' from
    (better_rt ra ra _ _ _ _ wy (HR.out wy hb).1 (HR.out wy hb).1).mono fun e w' ⟨h1, h2⟩ => ⟨by rw [h1]; rfl, h2⟩))
  have B4 := Lib.hid (fun (wy : World) (hb : Below (awW w).heap.size (awW w) wy) => (show Calls Tryd.prog 24 #[.agg #[.int .i64 1, .int .i64 15, .slice none 0 0], .agg #[.int .i64 2, .int .i64 0, .slice (some ⟨w.heap.size + 1 + 1 + 1 + 1, 0, none⟩) 1 1]] wy fun e w' => e = .returned (.bool true) ∧ Below wy.heap.size wy w' from
    (better_rt rv rc _ _ _ _ wy (HR.out wy hb).2.2.2.1 (HR.out wy hb).2.2.1).mono fun e w' ⟨h1, h2⟩ => ⟨by rw [h1]; rfl, h2⟩))
  have B5 := Lib.hid (fun (wy : World) (hb : Below (awW w).heap.size (awW w) wy) => (show Calls Tryd.prog 24 #[.agg #[.int .i64 2, .int .i64 0, .slice (some ⟨w.heap.size + 1 + 1, 0, none⟩) 2 2], .agg #[.int .i64 0, .int .i64 0, .slice none 0 0]] wy fun e w' => e = .returned (.bool true) ∧ Below wy.heap.size wy w' from
    (better_rt rb rtNone _ _ _ _ wy (HR.out wy hb).2.1 (HR.out wy hb).2.2.2.2).mono fun e w' ⟨h1, h2⟩ => ⟨by rw [h1]; rfl, h2⟩))
  have L1 := Lib.hid (fun (wy : World) (hb : Below (awW w).heap.size (awW w) wy) => (show Calls Tryd.prog 20 #[.agg #[.int .i64 2, .int .i64 0, .slice (some ⟨w.heap.size, 0, none⟩) 2 2]] wy fun e w' => e = .returned (.int .i64 (2)) ∧ Below wy.heap.size wy w' from length_rt ra _ _ wy))
  have L2 := Lib.hid (fun (wy : World) (hb : Below (awW w).heap.size (awW w) wy) => (show Calls Tryd.prog 20 #[.agg #[.int .i64 1, .int .i64 15, .slice none 0 0]] wy fun e w' => e = .returned (.int .i64 (15)) ∧ Below wy.heap.size wy w' from length_rt rv _ _ wy))
  have L3 := Lib.hid (fun (wy : World) (hb : Below (awW w).heap.size (awW w) wy) => (show Calls Tryd.prog 20 #[.agg #[.int .i64 0, .int .i64 0, .slice none 0 0]] wy fun e w' => e = .returned (.int .i64 (-1)) ∧ Below wy.heap.size wy w' from length_rt rtNone _ _ wy))
  have R1 := Lib.hid (fun (wy : World) (hb : Below (awW w).heap.size (awW w) wy) => (show Calls Tryd.prog 15 #[.agg #[.int .i64 2, .int .i64 0, .slice (some ⟨w.heap.size, 0, none⟩) 2 2]] wy fun e w' => e = .returned (.bool true) ∧ Below wy.heap.size wy w' from
    (right_rt ra _ _ wy (HR.out wy hb).1).mono fun e w' ⟨h1, h2⟩ => ⟨by rw [h1]; rfl, h2⟩))
  have S1 := Lib.hid (fun (wy : World) (hb : Below (awW w).heap.size (awW w) wy) (A : Option Addr) (c : Nat) (hr : RtR wy wy.heap.size ra A c) => (show Calls Tryd.prog 22 #[.agg #[.int .i64 2, .int .i64 0, .slice A 2 c], .agg #[.int .i64 2, .int .i64 0, .slice (some ⟨w.heap.size, 0, none⟩) 2 2]] wy fun e w' => e = .returned (.bool true) ∧ Below wy.heap.size wy w' from
    (same_rt ra ra _ _ _ _ wy hr (HR.out wy hb).1).mono fun e w' ⟨h1, h2⟩ => ⟨by rw [h1]; simp, h2⟩))
  have M1 := Lib.hid (fun (wy : World) (hb : Below (awW w).heap.size (awW w) wy) => (show Calls Tryd.prog 26 #[.slice (some ⟨wy.heap.size, 0, none⟩) 3 3] (wy.alloc (.cells #[.int .i64 2, .int .i64 0, .slice (some ⟨w.heap.size + 1 + 1, 0, none⟩) 2 2, .int .i64 2, .int .i64 0, .slice (some ⟨w.heap.size, 0, none⟩) 2 2, .int .i64 0, .int .i64 0, .slice none 0 0] 41)) fun e w' => ∃ A c, e = .returned (.agg #[.int .i64 2, .int .i64 0, .slice A 2 c]) ∧ RtR w' w'.heap.size ra A c ∧ Below wy.heap.size wy w' from by
    have hb1 := since_alloc hb (.cells #[.int .i64 2, .int .i64 0, .slice (some ⟨w.heap.size + 1 + 1, 0, none⟩) 2 2, .int .i64 2, .int .i64 0, .slice (some ⟨w.heap.size, 0, none⟩) 2 2, .int .i64 0, .int .i64 0, .slice none 0 0] 41)
    have hr := HR.out _ hb1
    refine (best_any [(rb, (some ⟨w.heap.size + 1 + 1, 0, none⟩, 2)), (ra, (some ⟨w.heap.size, 0, none⟩, 2)), (rtNone, (none, 0))] _ _ _ ⟨Rd.new rfl rfl, ?_⟩ (by simp) (by intro z hz; simp at hz; rcases hz with rfl | rfl | rfl <;> simp [ra, rb, rtNone])).mono ?_
    · intro z hz
      simp at hz
      rcases hz with rfl | rfl | rfl
      · exact hr.2.1
      · exact hr.1
      · exact hr.2.2.2.2
    · rintro e w' ⟨A, c, h1, h2, _, h3⟩
      have hbest : bestR [rb, ra, rtNone] = ra := rfl
      simp only [List.map_cons, List.map_nil, hbest] at h1 h2
      exact ⟨A, c, h1, ⟨h2.rd, h2.2.1, h2.2.2.1⟩, ((Below.refl _ _).alloc (Nat.le_refl _) _).trans (h3.mono (by simp))⟩))
  have hs0 : Below (awW w).heap.size (awW w) (awW w) := Below.refl _ _
  have hsd : Below (awW w).heap.size (awW w) (awW w).drew := (Below.refl _ _).drew
  clear ht
  go_enter Tryd.func14, Tryd.ntmps14
  go_wp2_with fail
  change Code.wp _ _ _ _ (awW w)
  go_region_held3 (fun wx => wx.cell? ⟨w.heap.size + 1, 0, none⟩ = some (.int .i64 2) ∧ wx.cell? ⟨w.heap.size + 1, 1, none⟩ = some (.int .i64 0) ∧ wx.cell? ⟨w.heap.size + 1, 2, none⟩ = some (.slice (some ⟨w.heap.size, 0, none⟩) 2 2) ∧ wx.cell? ⟨w.heap.size + 1 + 1 + 1, 0, none⟩ = some (.int .i64 2) ∧ wx.cell? ⟨w.heap.size + 1 + 1 + 1, 1, none⟩ = some (.int .i64 0) ∧ wx.cell? ⟨w.heap.size + 1 + 1 + 1, 2, none⟩ = some (.slice (some ⟨w.heap.size + 1 + 1, 0, none⟩) 2 2) ∧ wx.cell? ⟨w.heap.size + 1 + 1 + 1 + 1 + 1, 0, none⟩ = some (.int .i64 2) ∧ wx.cell? ⟨w.heap.size + 1 + 1 + 1 + 1 + 1, 1, none⟩ = some (.int .i64 0) ∧ wx.cell? ⟨w.heap.size + 1 + 1 + 1 + 1 + 1, 2, none⟩ = some (.slice (some ⟨w.heap.size + 1 + 1 + 1 + 1, 0, none⟩) 1 1) ∧ wx.cell? ⟨w.heap.size + 1 + 1 + 1 + 1 + 1 + 1, 0, none⟩ = some (.int .i64 1) ∧ wx.cell? ⟨w.heap.size + 1 + 1 + 1 + 1 + 1 + 1, 1, none⟩ = some (.int .i64 15) ∧ wx.cell? ⟨w.heap.size + 1 + 1 + 1 + 1 + 1 + 1, 2, none⟩ = some (.slice none 0 0)) (first | exact HC.out _ (by assumption) | exact HC.out _ (since_alloc (by assumption) _)) (first
    | (go_at_call 18; ((with_reducible refine (P1.out _ (by assumption)).mono ?_); rintro e wn ⟨rfl, hbn⟩; (have hsn := since_trans (by assumption) hbn)))
    | (go_at_call 18; ((with_reducible refine (P2.out _ (by assumption)).mono ?_); rintro e wn ⟨rfl, hbn⟩; (have hsn := since_trans (by assumption) hbn)))
    | (go_at_call 24; ((with_reducible refine (B1.out _ (by assumption)).mono ?_); rintro e wn ⟨rfl, hbn⟩; (have hsn := since_trans (by assumption) hbn)))
    | (go_at_call 24; ((with_reducible refine (B2.out _ (by assumption)).mono ?_); rintro e wn ⟨rfl, hbn⟩; (have hsn := since_trans (by assumption) hbn)))
    | (go_at_call 24; ((with_reducible refine (B3.out _ (by assumption)).mono ?_); rintro e wn ⟨rfl, hbn⟩; (have hsn := since_trans (by assumption) hbn)))
    | (go_at_call 24; ((with_reducible refine (B4.out _ (by assumption)).mono ?_); rintro e wn ⟨rfl, hbn⟩; (have hsn := since_trans (by assumption) hbn)))
    | (go_at_call 24; ((with_reducible refine (B5.out _ (by assumption)).mono ?_); rintro e wn ⟨rfl, hbn⟩; (have hsn := since_trans (by assumption) hbn)))
    | (go_at_call 20; ((with_reducible refine (L1.out _ (by assumption)).mono ?_); rintro e wn ⟨rfl, hbn⟩; (have hsn := since_trans (by assumption) hbn)))
    | (go_at_call 20; ((with_reducible refine (L2.out _ (by assumption)).mono ?_); rintro e wn ⟨rfl, hbn⟩; (have hsn := since_trans (by assumption) hbn)))
    | (go_at_call 20; ((with_reducible refine (L3.out _ (by assumption)).mono ?_); rintro e wn ⟨rfl, hbn⟩; (have hsn := since_trans (by assumption) hbn)))
    | (go_at_call 15; ((with_reducible refine (R1.out _ (by assumption)).mono ?_); rintro e wn ⟨rfl, hbn⟩; (have hsn := since_trans (by assumption) hbn)))
    | (go_at_call 22; ((with_reducible refine (S1.out _ (by assumption) _ _ (by assumption)).mono ?_); rintro e wn ⟨rfl, hbn⟩; (have hsn := since_trans (by assumption) hbn)))
    | (go_at_call 26; ((with_reducible refine (M1.out _ (by assumption)).mono ?_); rintro e wn ⟨An, cn, rfl, hrn, hbn⟩; (have hsn := since_trans (by assumption) hbn))))
  go_wp2
  go_ret
  exact ⟨rfl, HS0.out.trans ((show Below (awW w).heap.size (awW w) _ by assumption).mono HS0.out.size)⟩
end Go.Proofs.YtidmpfenkgihjaaDoor

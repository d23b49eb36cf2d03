/- The walks of backstayref06: the document's own answers on routes. -/
import Derived.Test.YtablbagdnmbbfaaGreatAttrX
namespace Go.Proofs.YtablbagdnmbbfaaGreat
set_option linter.unusedSimpArgs false
set_option linter.unusedVariables false
open Go.RowKit

/-- Two boxes of routes, and what was there. -/
structure TwoW (w wr : World) (a b : Rt) (A A' : Option Addr) (c c' : Nat) : Prop where
  below : Below w.heap.size w wr
  size : w.heap.size + 2 ≤ wr.heap.size
  a : wr.heap[w.heap.size]? = some (.cells #[.int .i64 a.kind, .int .i64 a.cost, .slice A a.path.length c] 53 (0, 0))
  b : wr.heap[w.heap.size + 1]? = some (.cells #[.int .i64 b.kind, .int .i64 b.cost, .slice A' b.path.length c'] 53 (0, 0))
section
variable {w wr w' : World} {a b : Rt} {A A' : Option Addr} {c c' : Nat}
theorem TwoW.begin : TwoW w ((w.alloc (.cells #[.int .i64 a.kind, .int .i64 a.cost, .slice A a.path.length c] 53)).alloc (.cells #[.int .i64 b.kind, .int .i64 b.cost, .slice A' b.path.length c'] 53)) a b A A' c c' where
  below := ((Below.refl _ _).alloc (Nat.le_refl _) _).alloc (by simp) _
  size := by simp
  a := (Below.heap_alloc _ _ _ (by simp)).trans (heap_alloc_new _ _)
  b := by have := heap_alloc_new (w.alloc (.cells #[.int .i64 a.kind, .int .i64 a.cost, .slice A a.path.length c] 53)) (.cells #[.int .i64 b.kind, .int .i64 b.cost, .slice A' b.path.length c'] 53); simpa using this
theorem TwoW.call (h : TwoW w wr a b A A' c c') (hb : Below wr.heap.size wr w') : TwoW w w' a b A A' c c' :=
  ⟨h.below.trans (hb.mono (by have := h.size; omega)), Nat.le_trans h.size hb.size, (hb.block _ (by have := h.size; omega)).trans h.a, (hb.block _ (by have := h.size; omega)).trans h.b⟩
theorem TwoW.at2 (h : TwoW w wr a b A A' c c') : wr.cell? ⟨w.heap.size, 2, none⟩ = some (.slice A a.path.length c) ∧ wr.cell? ⟨w.heap.size + 1, 2, none⟩ = some (.slice A' b.path.length c') :=
  ⟨cell_of_row wr _ 2 _ _ _ h.a, cell_of_row wr _ 2 _ _ _ h.b⟩
end
set_option maxRecDepth 100000 in
set_option maxHeartbeats 1000000 in
theorem refSame_any (a b : Rt) (A A' : Option Addr) (c c' : Nat) (w : World) (h : RtR w w.heap.size a A c) (h' : RtR w w.heap.size b A' c') :
    Calls Tryz.prog 37 #[rtV a A c, rtV b A' c'] w fun e w' => e = .returned (.bool (decide (a = b))) ∧ Below w.heap.size w w' := by
  have hl : a.path.length ≤ maxLen := Nat.le_trans h.2.1 h.2.2
  unfold maxLen at hl
  have HT := Lib.hid (TwoW.begin (w := w) (a := a) (b := b) (A := A) (A' := A') (c := c) (c' := c'))
  have HA := Lib.hid h.1
  have HA' := Lib.hid h'.1
  have HE := Lib.hid (show decide (a = b) = (decide (a.kind = b.kind) && (decide (a.cost = b.cost) && decide (a.path = b.path))) from by
    rw [Bool.eq_iff_iff]
    cases a; cases b
    simp)
  clear h h'
  unfold rtV
  by_cases hk : a.kind = b.kind
  rotate_left
  · have bk : (a.kind != b.kind) = true := by simp [hk]
    have HN := Lib.hid (show decide (a = b) = false from by rw [HE.out]; simp [hk])
    clear hk
    go_enter Tryz.func37, Tryz.ntmps37
    go_wp2
    go_ret
    exact ⟨ret_bool (by rw [HN.out]), HT.out.below⟩
  have bk : (a.kind != b.kind) = false := by simp [hk]
  by_cases hc : a.cost = b.cost
  rotate_left
  · have bc : (a.cost != b.cost) = true := by simp [hc]
    have HN := Lib.hid (show decide (a = b) = false from by rw [HE.out]; simp [hc])
    clear hk hc
    go_enter Tryz.func37, Tryz.ntmps37
    go_wp2
    go_ret
    exact ⟨ret_bool (by rw [HN.out]), HT.out.below⟩
  have bc : (a.cost != b.cost) = false := by simp [hc]
  by_cases hn : a.path.length = b.path.length
  rotate_left
  · have bn : ((a.path.length : Int) != (b.path.length : Int)) = true := by simp; omega
    have HN := Lib.hid (show decide (a = b) = false from by
      rw [HE.out]
      have : a.path ≠ b.path := fun e => hn (by rw [e])
      simp [this])
    clear hk hc hn
    go_enter Tryz.func37, Tryz.ntmps37
    go_wp2
    go_ret
    exact ⟨ret_bool (by rw [HN.out]), HT.out.below⟩
  have bn : ((a.path.length : Int) != (b.path.length : Int)) = false := by simp; omega
  have HP := Lib.hid (show decide (a = b) = decide (a.path = b.path) from by rw [HE.out]; simp [hk, hc])
  have HL := Lib.hid hn
  clear hk hc hn
  go_enter Tryz.func37, Tryz.ntmps37
  go_wp2_with fail
  go_loopw [5] (fun i wr => ∃ k : Nat, k ≤ a.path.length ∧ i = .int .i64 k ∧ a.path.take k = b.path.take k ∧ TwoW w wr a b A A' c c') (fun i _ => a.path.length - (intOf i).toNat)
  case atStart => exact ⟨0, Nat.zero_le _, rfl, by simp, HT.out⟩
  case round =>
    obtain ⟨k, hk, rfl, heq, hT⟩ := hrel
    have HQ := Lib.hid heq
    have HW := Lib.hid hT
    obtain ⟨p0, p1⟩ := hT.at2
    have hsz := hT.size
    clear heq
    by_cases hlt : k < a.path.length
    · have hlt' : k < b.path.length := by have := HL.out; omega
      obtain ⟨x, hx⟩ : ∃ x, a.path[k]? = some x := ⟨_, List.getElem?_eq_getElem hlt⟩
      obtain ⟨y, hy⟩ : ∃ y, b.path[k]? = some y := ⟨_, List.getElem?_eq_getElem hlt'⟩
      obtain ⟨b1, o1, e1, hb1, hc1⟩ := (HA.out.below hT.below (Nat.le_refl _)).one (i := k) (x := .int .i64 x) (by simp [ints, hx])
      obtain ⟨b2, o2, e2, hb2, hc2⟩ := (HA'.out.below hT.below (Nat.le_refl _)).one (i := k) (x := .int .i64 y) (by simp [ints, hy])
      rw [e1] at p0
      rw [e2] at p1
      have hz0 : (0 : Int) ≤ (k : Int) := by omega
      have hz1 : (k : Int) < (a.path.length : Int) := by omega
      have hz2 : (k : Int) < (b.path.length : Int) := by omega
      have HX := Lib.hid hx
      have HY := Lib.hid hy
      clear hx hy e1 e2 hT
      by_cases hxy : x = y
      · have HF := Lib.hid (show a.path.take (k + 1) = b.path.take (k + 1) from by rw [List.take_add_one, List.take_add_one, HX.out, HY.out, HQ.out, hxy])
        have bx : (x != y) = false := by simp [hxy]
        clear hxy
        go_wp2_with fail
        go_quiet (fail)
        go_wp2
        go_roundw
        case rel => exact ⟨k + 1, by omega, by go_num, HF.out, HW.out.call ((Below.refl _ _).trans ⟨rfl, rfl, rfl, Nat.le_refl _, fun _ _ => rfl⟩)⟩
        case measure => simp [intOf]; omega
      · have bx : (x != y) = true := by simp [hxy]
        have HF := Lib.hid (show decide (a = b) = false from by
          rw [HP.out]
          have : a.path ≠ b.path := by
            intro e
            have := HX.out
            rw [e, HY.out] at this
            injection this with this
            exact hxy this.symm
          simp [this])
        clear hxy
        go_wp2_with fail
        go_quiet (fail)
        go_wp2
        go_ret
        exact ⟨ret_bool (by rw [HF.out]), HW.out.below.trans ⟨rfl, rfl, rfl, Nat.le_refl _, fun _ _ => rfl⟩⟩
    · have HF := Lib.hid (show decide (a = b) = true from by
        rw [HP.out]
        have h1 := HQ.out
        rw [List.take_of_length_le (by omega), List.take_of_length_le (by have := HL.out; omega)] at h1
        simp [h1])
      clear hT
      go_wp2
      go_ret
      exact ⟨ret_bool (by rw [HF.out]), HW.out.below⟩
end Go.Proofs.YtablbagdnmbbfaaGreat

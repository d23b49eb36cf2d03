/- The walks of package attr: which routes may be, are the same, and the best of some. -/
import Derived.Test.YtablbagdnmbbfaaGreatAttrW
import Derived.Test.YtablbagdnmbbfaaGreatNodup
import Derived.Test.YtablbagdnmbbfaaGreatShelf
namespace Go.Proofs.YtablbagdnmbbfaaGreat
set_option linter.unusedSimpArgs false
set_option linter.unusedVariables false
open Go.RowKit Go.Sort

theorem Rd.ints_at {w : World} {B b o : Nat} {l : List Int} (h : Rd w B 1 (some ⟨b, o, none⟩) l.length (ints l)) : ∀ j, j < l.length → w.cell? ⟨b, o + j, none⟩ = some (.int .i64 (l.getD j 0)) := by
  intro j hj
  obtain ⟨b', o', e, _, hc⟩ := h.2 (by omega)
  injection e with e
  injection e with e1 e2
  subst e1 e2
  exact hc j _ (by simp [ints, hj])
theorem below_drewN' {B : Nat} {a w : World} (h : Below B a w) (n : Nat) : Below B a (w.drewN n) := h.trans ⟨rfl, rfl, rfl, Nat.le_refl _, fun _ _ => rfl⟩
theorem eqS_any (l m : List Int) (A A' : Option Addr) (c c' : Nat) (w : World) (B B' : Nat) (h : Rd w B 1 A l.length (ints l)) (h' : Rd w B' 1 A' m.length (ints m)) (hl : l.length ≤ maxLen) (hm : m.length ≤ maxLen) :
    Calls Tryz.prog 78 #[.slice A l.length c, .slice A' m.length c'] w fun e w' => e = .returned (.bool (decide (l = m))) ∧ Below w.heap.size w w' := by
  unfold maxLen at hl hm
  by_cases hlen : l.length = m.length
  · by_cases h0 : l.length = 0
    · have el : l = [] := List.eq_nil_of_length_eq_zero h0
      have em : m = [] := List.eq_nil_of_length_eq_zero (by omega)
      subst el em
      exact (Tryz.slices_Equal_int_empty A A' c 0 c' w (by omega)).mono fun e w' ⟨h1, h2⟩ => ⟨by rw [h1]; simp, by rw [h2]; exact Below.refl _ _⟩
    · obtain ⟨b, o, rfl, _⟩ := h.2 (by omega)
      obtain ⟨b', o', rfl, _⟩ := h'.2 (by omega)
      refine (Tryz.slices_Equal_int b o l.length c b' o' m.length c' l m w (Nat.le_refl _) (Nat.le_refl _) (by omega) (by omega) h.ints_at h'.ints_at).mono ?_
      rintro e w' ⟨rfl, q, rfl⟩
      refine ⟨?_, below_drewN' (Below.refl _ _) _⟩
      rw [List.take_length, List.take_length]
      congr 2
      rw [Bool.eq_iff_iff]; simp
  · exact (Tryz.slices_Equal_int_lens A A' l.length c m.length c' w hlen).mono fun e w' ⟨h1, h2⟩ => ⟨by rw [h1]; simp; rintro rfl; exact hlen rfl, by rw [h2]; exact Below.refl _ _⟩

/-- A copy in memory of the call's own. -/
def ClonePost (l : List Int) (w : World) (e : Ending) (w' : World) : Prop :=
  ∃ A c, e = .returned (.slice A l.length c) ∧ Own w' w.heap.size 3 1 A l.length c (ints l) ∧ (A = none ∨ ∃ g, A = some ⟨g, 0, none⟩) ∧ Below w.heap.size w w'
theorem clone_any (l : List Int) (A : Option Addr) (c : Nat) (w : World) (B : Nat) (h : Rd w B 1 A l.length (ints l)) (hl : l.length ≤ 1000000) :
    Calls Tryz.prog 106 #[.slice A l.length c] w (ClonePost l w) := by
  cases A with
  | none =>
    have h0 : l = [] := by
      cases l with
      | nil => rfl
      | cons x l => obtain ⟨b, o, e, _⟩ := h.2 (by simp); cases e
    subst h0
    exact (Tryz.slices_Clone_int_nil _ c w).mono fun e w' ⟨h1, h2⟩ => ⟨none, 0, h1, Own.nil _ _ _ _, .inl rfl, by rw [h2]; exact Below.refl _ _⟩
  | some a =>
    by_cases h0 : l.length = 0
    · have el : l = [] := List.eq_nil_of_length_eq_zero h0
      subst el
      refine (Tryz.slices_Clone_int_zero a c w).mono ?_
      rintro e w' ⟨v', rfl, ho, hne, hb⟩
      obtain ⟨A', c', rfl, hO, hA⟩ := Own.of_row ho
      exact ⟨A', c', rfl, hO, hA, hb⟩
    · obtain ⟨b, o, e, _⟩ := h.2 (by omega)
      injection e with e
      subst e
      refine (Tryz.slices_Clone_int b o l.length c l w (Nat.le_refl _) (by omega) h.ints_at).mono ?_
      rintro e w' ⟨v', rfl, ho, hne, hb⟩
      obtain ⟨A', c', rfl, hO, hA⟩ := Own.of_row ho
      rw [List.take_length] at hO
      exact ⟨A', c', rfl, hO, hA, hb⟩
theorem sortI_any (l : List Int) (A : Option Addr) (c B : Nat) (w : World) (h : Own w B 3 1 A l.length c (ints l)) (hl : l.length ≤ 1000000) :
    Calls Tryz.prog 148 #[.slice A l.length c] w fun e w' => e = .returned (.tuple #[]) ∧ Own w' B 3 1 A l.length c (ints (l.mergeSort fun x y => decide (x ≤ y))) ∧ w.grownBy w' (blk A) := by
  by_cases h0 : l.length = 0
  · have el : l = [] := List.eq_nil_of_length_eq_zero h0
    subst el
    exact (Tryz.slices_Sort_int_none A c w).mono fun e w' ⟨h1, h2⟩ => ⟨h1, by rw [h2]; simpa using h, by rw [h2]; exact World.grownBy.refl _ _⟩
  · have hc : 0 < c := by have := h.2.1; omega
    obtain ⟨g, off, cur, rfl, hh, _⟩ := h.2.2.2.2.2 hc
    refine (Tryz.slices_Sort_int g off c l w (Own.holdsE h hc) (lt_heap hh) (by omega)).mono ?_
    rintro e w' ⟨rfl, n, os, rfl⟩
    have hp := Own.putRowE (q := n) (os := os) (ys := l.mergeSort fun x y => decide (x ≤ y)) h hc (by simp)
    refine ⟨rfl, ?_, hp.2⟩
    have := hp.1
    rwa [List.length_mergeSort] at this
theorem compactI_any (l : List Int) (A : Option Addr) (c B : Nat) (w : World) (h : Own w B 3 1 A l.length c (ints l)) (hl : l.length ≤ 1000000) :
    Calls Tryz.prog 149 #[.slice A l.length c] w fun e w' => e = .returned (.slice A (Lib.compact l).length c) ∧ w.grownBy w' (blk A) := by
  by_cases h0 : l.length = 0
  · have el : l = [] := List.eq_nil_of_length_eq_zero h0
    subst el
    exact (Tryz.slices_Compact_int_empty A c w).mono fun e w' ⟨h1, h2⟩ => ⟨h1, by rw [h2]; exact World.grownBy.refl _ _⟩
  · have hc : 0 < c := by have := h.2.1; omega
    obtain ⟨g, off, cur, rfl, hh, _⟩ := h.2.2.2.2.2 hc
    refine (Tryz.slices_Compact_int g off c l w (Own.holdsE h hc) (by omega) h.2.1).mono ?_
    rintro e w' ⟨rfl, q, rfl⟩
    refine ⟨rfl, ⟨rfl, rfl, rfl, by simp, fun k hk hne => ?_⟩⟩
    have : g ≠ k := fun e => hne (by rw [e]; rfl)
    simp [Go.Sort.putRow, mapBlock, Sort.ahead, Array.getElem?_modify, this]

/-! ### Right -/
theorem list1_any (n : Int) (w : World) : Calls Tryz.prog 147 #[.int .i64 n] w fun e w' => e = .returned (.bool (badNum n)) ∧ Below w.heap.size w w' := by
  go_enter Tryz.func147, Tryz.ntmps147
  go_wp2
  all_goals go_ret
  all_goals exact ⟨ret_bool (by unfold badNum; first | rfl | (rw [Bool.eq_iff_iff]; simp only [Bool.or_eq_true, Bool.and_eq_true, decide_eq_true_eq, beq_iff_eq, Bool.false_eq_true, false_iff, iff_false, true_iff, iff_true, or_false, false_or, and_true, true_and]; omega)), Below.refl _ _⟩
set_option maxHeartbeats 1000000 in
theorem ixNum (l : List Int) (A : Option Addr) (c : Nat) (w : World) (h : Rd w w.heap.size 1 A l.length (ints l)) (hl : l.length ≤ 10000)  :
    Calls Tryz.prog 151 #[.slice A l.length c, .func (.func 147) #[] #[]] w (IxPost (l.any (badNum)) w) := by
  go_enter Tryz.func151, Tryz.ntmps151
  go_wp2_with fail
  go_loopw [8] (fun i wr => ∃ k : Nat, k ≤ l.length ∧ i = .int .i64 k ∧ (l.take k).any (badNum) = false ∧ Below w.heap.size w wr) (fun i _ => l.length - (intOf i).toNat)
  case atStart => exact ⟨0, Nat.zero_le _, rfl, by simp, Below.refl _ _⟩
  case round =>
    obtain ⟨k, hk, rfl, hall, hbel⟩ := hrel
    have hsz := hbel.size
    have HA := Lib.hid hall
    clear hall
    by_cases hlt : k < l.length
    · obtain ⟨x, hx⟩ : ∃ x, l[k]? = some x := ⟨_, List.getElem?_eq_getElem hlt⟩
      have hts : l.take (k + 1) = l.take k ++ [x] := by
        rw [List.take_add_one, hx]; rfl
      obtain ⟨b, o, rfl, hb, hc0⟩ := h.one (i := k) (x := .int .i64 x) (by simp [ints, hx])
      rw [← hbel.cell hb] at hc0
      have HX := Lib.hid hx
      have HT := Lib.hid hts
      clear hx hts h
      by_cases he : badNum x = true
      · have hfin : ∀ w', Below w.heap.size w w' → IxPost (l.any (badNum)) w (.returned (.int .i64 k)) w' := by
          intro w' hb'
          refine ⟨k, rfl, ?_, hb'⟩
          have h1 : decide ((0 : Int) ≤ (k : Int)) = true := by simp
          rw [h1]
          symm
          rw [List.any_eq_true]
          exact ⟨x, List.mem_of_getElem? HX.out, he⟩
        have HF := Lib.hid hfin
        have HE := Lib.hid he
        clear hfin he
        go_wp2_with fail
        refine (list1_any x _).mono ?_
        rintro e w1 ⟨rfl, hb1⟩
        rw [HE.out]
        go_wp2
        go_ret
        exact HF.out _ (hbel.trans (hb1.mono hsz))
      · have he : badNum x = false := by simpa using he
        have HE := Lib.hid he
        clear he
        go_wp2_with fail
        refine (list1_any x _).mono ?_
        rintro e w1 ⟨rfl, hb1⟩
        rw [HE.out]
        go_wp2
        go_roundw
        case rel => exact ⟨k + 1, by omega, by go_num, by rw [HT.out, List.any_append, HA.out]; simp [HE.out], hbel.trans (hb1.mono hsz)⟩
        case measure => simp [intOf]; omega
    · have hfin : IxPost (l.any (badNum)) w (.returned (.int .i64 (-1))) wr := by
        refine ⟨-1, rfl, ?_, hbel⟩
        have := HA.out
        rw [List.take_of_length_le (by omega)] at this
        rw [this]; simp
      have HF := Lib.hid hfin
      clear hfin h
      go_wp2
      go_ret
      exact HF.out
theorem cfNum (l : List Int) (A : Option Addr) (c : Nat) (w : World) (h : Rd w w.heap.size 1 A l.length (ints l)) (hl : l.length ≤ 10000)  :
    Calls Tryz.prog 146 #[.slice A l.length c, .func (.func 147) #[] #[]] w fun e w' => e = .returned (.bool (l.any (badNum))) ∧ Below w.heap.size w w' := by
  go_enter Tryz.func146, Tryz.ntmps146
  go_wp2_with (go_at_call 151; refine (ixNum l A c _ h hl).mono ?_; rintro e w1 ⟨r, rfl, hr, hb1⟩)
  go_ret
  exact ⟨ret_bool (by rw [← hr]), hb1⟩
set_option maxHeartbeats 400000 in
theorem list_any (l : List Int) (A : Option Addr) (c : Nat) (w : World) (h : Rd w w.heap.size 1 A l.length (ints l)) (hl : l.length ≤ maxLen) :
    Calls Tryz.prog 138 #[.slice A l.length c] w fun e w' => e = .returned (.bool (listB l)) ∧ Below w.heap.size w w' := by
  unfold maxLen at hl
  by_cases h12 : l.length ≤ 12
  · have h12' : (l.length : Int) ≤ 12 := by omega
    by_cases hb : l.any badNum = true
    · have HN := Lib.hid (show listB l = false from by unfold listB; rw [hb]; simp)
      have HB := Lib.hid hb
      have HH := Lib.hid h
      clear hb h
      go_enter Tryz.func138, Tryz.ntmps138
      go_wp2_with fail
      refine (cfNum l A c _ HH.out (by omega)).mono ?_
      rintro e w1 ⟨rfl, hb1⟩
      rw [HB.out]
      go_wp2
      go_ret
      exact ⟨ret_bool (by rw [HN.out]), hb1⟩
    · replace hb : l.any badNum = false := by simpa using hb
      have HN := Lib.hid (show listB l = decide l.Nodup from by unfold listB; rw [hb]; simp [h12])
      have HB := Lib.hid hb
      have HH := Lib.hid h
      clear hb h
      go_enter Tryz.func138, Tryz.ntmps138
      go_wp2_with fail
      refine (cfNum l A c _ HH.out (by omega)).mono ?_
      rintro e w1 ⟨rfl, hb1⟩
      rw [HB.out]
      go_wp2_with fail
      refine (clone_any l A c w1 _ (HH.out.below hb1 (Nat.le_refl _)) (by omega)).mono ?_
      rintro e w2 ⟨A2, c2, rfl, ho2, hA2, hb2⟩
      have hbb := hb1.trans (hb2.mono hb1.size)
      have hfr := ho2.from_
      have hs1 := hb1.size
      go_wp2_with fail
      refine (sortI_any l A2 c2 _ w2 ho2 (by omega)).mono ?_
      rintro e w3 ⟨rfl, ho3, hg3⟩
      have hbc := hbb.grown hg3 hbb.size (fun g hg => by have := hfr g hg; omega)
      have hlen : (l.mergeSort fun x y => decide (x ≤ y)).length = l.length := List.length_mergeSort _
      have HO : Hid (Own w3 w1.heap.size 3 1 A2 (l.mergeSort fun x y => decide (x ≤ y)).length c2 (ints (l.mergeSort fun x y => decide (x ≤ y)))) := Lib.hid (by rw [hlen]; exact ho3)
      have HC := compactI_any (l.mergeSort fun x y => decide (x ≤ y)) A2 c2 _ w3 HO.out (by rw [hlen]; omega)
      rw [hlen] at HC
      have HC := Lib.hid HC
      have HK := Lib.hid (compact_nodup l)
      have HD := Lib.hid hbc
      have HF := Lib.hid (show ∀ g, blk A2 = some g → w.heap.size ≤ g from fun g hg => by have := hfr g hg; omega)
      clear ho2 hb2 hbb hfr hs1 ho3 hg3 hbc hlen hb1 HO hA2
      go_wp2_with fail
      refine HC.out.mono ?_
      rintro e w4 ⟨rfl, hg4⟩
      have HG := Lib.hid (HD.out.grown hg4 HD.out.size (fun g hg => by have := HF.out g hg; have := HD.out.size; omega))
      clear hg4
      go_wp2
      go_ret
      refine ⟨ret_bool ?_, HG.out⟩
      rw [HN.out, Bool.eq_iff_iff]
      simp only [beq_iff_eq, decide_eq_true_eq]
      rw [← HK.out]
      omega
  · have h12' : (12 : Int) < l.length := by omega
    have HN := Lib.hid (show listB l = false from by simp [listB, h12])
    clear h
    go_enter Tryz.func138, Tryz.ntmps138
    go_wp2
    go_ret
    exact ⟨ret_bool (by rw [HN.out]), Below.refl _ _⟩

theorem right_rt (r : Rt) (A : Option Addr) (c : Nat) (w : World) (h : RtR w w.heap.size r A c) : Calls Tryz.prog 123 #[rtV r A c] w fun e w' => e = .returned (.bool (rtRightB r)) ∧ Below w.heap.size w w' := by
  have hl : r.path.length ≤ maxLen := Nat.le_trans h.2.1 h.2.2
  have HH := Lib.hid (fun o => (h.1.alloc (Nat.le_refl _) o).more (by simp : w.heap.size ≤ (w.alloc o).heap.size))
  have HB := Lib.hid (fun o => (Below.refl w.heap.size w).alloc (Nat.le_refl _) o)
  clear h
  unfold rtV
  by_cases h0 : r.kind = 0
  · have b0 : (r.kind == 0) = true := by simp [h0]
    have HN := Lib.hid (show rtRightB r = (decide (r.cost = 0) && decide (r.path.length = 0)) from by simp [rtRightB, h0])
    by_cases hc : r.cost = 0
    · have bc : (r.cost == 0) = true := by simp [hc]
      have HN := Lib.hid (show rtRightB r = decide (r.path.length = 0) from by rw [HN.out]; simp [hc])
      clear h0 hc
      go_enter Tryz.func123, Tryz.ntmps123
      go_wp2
      go_ret
      exact ⟨ret_bool (by rw [HN.out]; rw [Bool.eq_iff_iff]; simp), HB.out _⟩
    · have bc : (r.cost == 0) = false := by simp [hc]
      have HN := Lib.hid (show rtRightB r = false from by rw [HN.out]; simp [hc])
      clear h0 hc
      go_enter Tryz.func123, Tryz.ntmps123
      go_wp2
      go_ret
      exact ⟨ret_bool (by rw [HN.out]), HB.out _⟩
  have b0 : (r.kind == 0) = false := by simp [h0]
  by_cases h1 : r.kind = 1
  · have b1 : (r.kind == 1) = true := by simp [h1]
    have HN := Lib.hid (show rtRightB r = (decide (0 ≤ r.cost) && decide (r.cost ≤ 15) && decide (r.path.length = 0)) from by simp [rtRightB, h1])
    by_cases hc : 0 ≤ r.cost
    · by_cases hc' : r.cost ≤ 15
      · have HN := Lib.hid (show rtRightB r = decide (r.path.length = 0) from by rw [HN.out]; simp [hc, hc'])
        clear h0 h1
        go_enter Tryz.func123, Tryz.ntmps123
        go_wp2
        go_ret
        exact ⟨ret_bool (by rw [HN.out]; rw [Bool.eq_iff_iff]; simp), HB.out _⟩
      · have hc'' : decide (r.cost ≤ 15) = false := by simpa using hc'
        have HN := Lib.hid (show rtRightB r = false from by rw [HN.out]; simp [hc'])
        clear h0 h1
        go_enter Tryz.func123, Tryz.ntmps123
        go_wp2
        go_ret
        exact ⟨ret_bool (by rw [HN.out]), HB.out _⟩
    · have hc'' : decide (0 ≤ r.cost) = false := by simpa using hc
      have HN := Lib.hid (show rtRightB r = false from by rw [HN.out]; simp [hc])
      clear h0 h1
      go_enter Tryz.func123, Tryz.ntmps123
      go_wp2
      go_ret
      exact ⟨ret_bool (by rw [HN.out]), HB.out _⟩
  have b1 : (r.kind == 1) = false := by simp [h1]
  by_cases h2 : r.kind = 2
  · have b2 : (r.kind == 2) = true := by simp [h2]
    have HN := Lib.hid (show rtRightB r = (decide (r.cost = 0) && listB r.path) from by simp [rtRightB, h2])
    by_cases hc : r.cost = 0
    · have bc : (r.cost == 0) = true := by simp [hc]
      have HN := Lib.hid (show rtRightB r = listB r.path from by rw [HN.out]; simp [hc])
      clear h0 h1 h2 hc
      go_enter Tryz.func123, Tryz.ntmps123
      go_wp2_with fail
      refine (list_any r.path A c _ (HH.out _) hl).mono ?_
      rintro e w1 ⟨rfl, hb1⟩
      go_wp2
      go_ret
      exact ⟨ret_bool (by rw [HN.out]), (HB.out _).trans (hb1.mono (by simp))⟩
    · have bc : (r.cost == 0) = false := by simp [hc]
      have HN := Lib.hid (show rtRightB r = false from by rw [HN.out]; simp [hc])
      clear h0 h1 h2 hc
      go_enter Tryz.func123, Tryz.ntmps123
      go_wp2
      go_ret
      exact ⟨ret_bool (by rw [HN.out]), HB.out _⟩
  have b2 : (r.kind == 2) = false := by simp [h2]
  have HN := Lib.hid (show rtRightB r = false from by simp [rtRightB, h0, h1, h2])
  clear h0 h1 h2
  go_enter Tryz.func123, Tryz.ntmps123
  go_wp2
  go_ret
  exact ⟨ret_bool (by rw [HN.out]), HB.out _⟩

theorem same_rt (a b : Rt) (A A' : Option Addr) (c c' : Nat) (w : World) (h : RtR w w.heap.size a A c) (h' : RtR w w.heap.size b A' c') :
    Calls Tryz.prog 44 #[rtV a A c, rtV b A' c'] w fun e w' => e = .returned (.bool (decide (a = b))) ∧ Below w.heap.size w w' := by
  have hl : a.path.length ≤ maxLen := Nat.le_trans h.2.1 h.2.2
  have hl' : b.path.length ≤ maxLen := Nat.le_trans h'.2.1 h'.2.2
  have HA := Lib.hid (fun o o' => (h.1.alloc (Nat.le_refl _) o).alloc (by simp) o')
  have HA' := Lib.hid (fun o o' => (h'.1.alloc (Nat.le_refl _) o).alloc (by simp) o')
  have HB := Lib.hid (fun o o' => ((Below.refl w.heap.size w).alloc (Nat.le_refl _) o).alloc (by simp) o')
  have HE := Lib.hid (show decide (a = b) = (decide (a.kind = b.kind) && (decide (a.cost = b.cost) && decide (a.path = b.path))) from by
    rw [Bool.eq_iff_iff]
    cases a; cases b
    simp)
  clear h h'
  unfold rtV
  by_cases hk : a.kind = b.kind
  · have bk : (a.kind == b.kind) = true := by simp [hk]
    by_cases hc : a.cost = b.cost
    · have bc : (a.cost == b.cost) = true := by simp [hc]
      have HN := Lib.hid (show decide (a = b) = decide (a.path = b.path) from by rw [HE.out]; simp [hk, hc])
      clear hk hc
      go_enter Tryz.func44, Tryz.ntmps44
      go_wp2_with fail
      refine (eqS_any a.path b.path A A' c c' _ _ _ (HA.out _ _) (HA'.out _ _) hl hl').mono ?_
      rintro e w1 ⟨rfl, hb1⟩
      go_wp2
      go_ret
      exact ⟨ret_bool (by rw [HN.out]), (HB.out _ _).trans (hb1.mono (by simp; omega))⟩
    · have bc : (a.cost == b.cost) = false := by simp [hc]
      have HN := Lib.hid (show decide (a = b) = false from by rw [HE.out]; simp [hc])
      clear hk hc
      go_enter Tryz.func44, Tryz.ntmps44
      go_wp2
      go_ret
      exact ⟨ret_bool (by rw [HN.out]), HB.out _ _⟩
  · have bk : (a.kind == b.kind) = false := by simp [hk]
    have HN := Lib.hid (show decide (a = b) = false from by rw [HE.out]; simp [hk])
    clear hk
    go_enter Tryz.func44, Tryz.ntmps44
    go_wp2
    go_ret
    exact ⟨ret_bool (by rw [HN.out]), HB.out _ _⟩
def betterB (a b : Rt) : Bool := decide (cmpR a b = -1)
theorem better_rt (a b : Rt) (A A' : Option Addr) (c c' : Nat) (w : World) (h : RtR w w.heap.size a A c) (h' : RtR w w.heap.size b A' c') :
    Calls Tryz.prog 24 #[rtV a A c, rtV b A' c'] w fun e w' => e = .returned (.bool (betterB a b)) ∧ Below w.heap.size w w' := by
  have HN := Lib.hid (show decide (cmpR a b < 0) = betterB a b from by
    unfold betterB
    rw [Bool.eq_iff_iff]
    have := cmpR_in a b
    simp; omega)
  have HA := Lib.hid (fun o o' => ((h.alloc (Nat.le_refl _) o).alloc (by simp) o').more (by simp; omega : w.heap.size ≤ ((w.alloc o).alloc o').heap.size))
  have HA' := Lib.hid (fun o o' => ((h'.alloc (Nat.le_refl _) o).alloc (by simp) o').more (by simp; omega : w.heap.size ≤ ((w.alloc o).alloc o').heap.size))
  have HB := Lib.hid (fun o o' => ((Below.refl w.heap.size w).alloc (Nat.le_refl _) o).alloc (by simp) o')
  clear h h'
  unfold rtV
  go_enter Tryz.func24, Tryz.ntmps24
  go_wp2_with fail
  refine (compare_any a b A A' c c' _ (HA.out _ _) (HA'.out _ _)).mono ?_
  rintro e w1 ⟨rfl, hb1⟩
  go_wp2
  go_ret
  exact ⟨ret_bool (by rw [HN.out]), (HB.out _ _).trans (hb1.mono (by simp; omega))⟩
theorem length_rt (r : Rt) (A : Option Addr) (c : Nat) (w : World) : Calls Tryz.prog 25 #[rtV r A c] w fun e w' => e = .returned (.int .i64 (rtLen r)) ∧ Below w.heap.size w w' := by
  unfold rtV
  by_cases h1 : r.kind = 1
  · have b1 : (r.kind == 1) = true := by simp [h1]
    have HN := Lib.hid (show rtLen r = r.cost from by simp [rtLen, h1])
    clear h1
    go_enter Tryz.func25, Tryz.ntmps25
    go_wp2
    go_ret
    exact ⟨ret_int (by rw [HN.out]), (Below.refl _ _).alloc (Nat.le_refl _) _⟩
  have b1 : (r.kind == 1) = false := by simp [h1]
  by_cases h2 : r.kind = 2
  · have b2 : (r.kind == 2) = true := by simp [h2]
    have HN := Lib.hid (show rtLen r = r.path.length from by simp [rtLen, h2])
    clear h1 h2
    go_enter Tryz.func25, Tryz.ntmps25
    go_wp2
    go_ret
    exact ⟨ret_int (by rw [HN.out]), (Below.refl _ _).alloc (Nat.le_refl _) _⟩
  have b2 : (r.kind == 2) = false := by simp [h2]
  have HN := Lib.hid (show rtLen r = -1 from by simp [rtLen, h1, h2])
  clear h1 h2
  go_enter Tryz.func25, Tryz.ntmps25
  go_wp2
  go_ret
  exact ⟨ret_int (by rw [HN.out]), (Below.refl _ _).alloc (Nat.le_refl _) _⟩
end Go.Proofs.YtablbagdnmbbfaaGreat

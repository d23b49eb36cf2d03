/- The walks of package attr: which of two routes is better. The walks of package attr: which routes may be, are the same, and the best of some. The walk of backstaylaw06.Route: a route out of raw numbers. A route in a box of its own; what came in behind calls. No program is walked here. The walks of backstayref06: the document's own answers on routes. -/
import Derived.Test.YtakolnmoieiicaaGreatRt
import Derived.StillTailTactics
import Derived.Test.YtakolnmoieiicaaGreatBase
import Derived.Test.YtakolnmoieiicaaGreatShelf
namespace Go.Proofs.YtakolnmoieiicaaGreat
set_option linter.unusedSimpArgs false
set_option linter.unusedVariables false
open Go.RowKit

section
theorem isnan_any (x : Int) (w : World) : Calls Tryz.prog 131 #[.int .i64 x] w fun e w' => e = .returned (.bool false) ∧ w = w' := by
  go_enter Tryz.func131, Tryz.ntmps131
  go_wp2
  go_ret
  exact ⟨rfl, rfl⟩
theorem cmp_any (x y : Int) (w : World) : Calls Tryz.prog 119 #[.int .i64 x, .int .i64 y] w fun e w' => e = .returned (.int .i64 (cmpI x y)) ∧ w = w' := by
  by_cases h1 : x < y
  · have HN := Lib.hid (show cmpI x y = -1 from by simp [cmpI, h1])
    go_enter Tryz.func119, Tryz.ntmps119
    go_wp2_with (go_at_call 131; refine (isnan_any _ _).mono ?_; rintro e w' ⟨rfl, rfl⟩)
    go_ret
    exact ⟨ret_int (by rw [HN.out]), rfl⟩
  · by_cases h2 : y < x
    · have HN := Lib.hid (show cmpI x y = 1 from by simp [cmpI, h1, h2])
      go_enter Tryz.func119, Tryz.ntmps119
      go_wp2_with (go_at_call 131; refine (isnan_any _ _).mono ?_; rintro e w' ⟨rfl, rfl⟩)
      go_ret
      exact ⟨ret_int (by rw [HN.out]), rfl⟩
    · have HN := Lib.hid (show cmpI x y = 0 from by simp [cmpI, h1, h2])
      go_enter Tryz.func119, Tryz.ntmps119
      go_wp2_with (go_at_call 131; refine (isnan_any _ _).mono ?_; rintro e w' ⟨rfl, rfl⟩)
      go_ret
      exact ⟨ret_int (by rw [HN.out]), rfl⟩
theorem rank_any (k : Int) (w : World) : Calls Tryz.prog 120 #[.int .i64 k] w fun e w' => e = .returned (.int .i64 (rankI k)) ∧ w = w' := by
  by_cases h1 : k = 1
  · have HN := Lib.hid (show rankI k = 2 from by simp [rankI, h1])
    subst h1
    go_enter Tryz.func120, Tryz.ntmps120
    go_wp2
    go_ret
    exact ⟨ret_int (by rw [HN.out]), rfl⟩
  · have b1 : (k == 1) = false := by simp [h1]
    by_cases h2 : k = 2
    · have HN := Lib.hid (show rankI k = 1 from by simp [rankI, h2])
      subst h2
      clear h1
      go_enter Tryz.func120, Tryz.ntmps120
      go_wp2
      go_ret
      exact ⟨ret_int (by rw [HN.out]), rfl⟩
    · have b2 : (k == 2) = false := by simp [h2]
      have HN := Lib.hid (show rankI k = 0 from by simp [rankI, h1, h2])
      clear h1 h2
      go_enter Tryz.func120, Tryz.ntmps120
      go_wp2
      go_ret
      exact ⟨ret_int (by rw [HN.out]), rfl⟩

set_option maxHeartbeats 400000 in
theorem cmpS_any (l m : List Int) (A A' : Option Addr) (c c' : Nat) (w : World) (B B' : Nat) (h : Rd w B 1 A l.length (ints l)) (h' : Rd w B' 1 A' m.length (ints m)) (hl : l.length ≤ maxLen) (hm : m.length ≤ maxLen) :
    Calls Tryz.prog 121 #[.slice A l.length c, .slice A' m.length c'] w fun e w' => e = .returned (.int .i64 (lexI l m)) ∧ w = w' := by
  unfold maxLen at hl hm
  go_enter Tryz.func121, Tryz.ntmps121
  go_wp2
  go_loop [11] (fun i => ∃ k : Nat, k ≤ l.length ∧ k ≤ m.length ∧ i = .int .i64 k ∧ lexI l m = lexI (l.drop k) (m.drop k)) (fun i => l.length - (intOf i).toNat)
  case atStart => exact ⟨0, Nat.zero_le _, Nat.zero_le _, rfl, by simp⟩
  case round =>
    obtain ⟨k, hk, hk', rfl, hlex⟩ := hrel
    have HL := Lib.hid hlex
    clear hlex
    by_cases hlt : k < l.length
    · obtain ⟨x, hx⟩ : ∃ x, l[k]? = some x := ⟨_, List.getElem?_eq_getElem hlt⟩
      obtain ⟨b, o, rfl, hb, hc⟩ := h.one (i := k) (x := .int .i64 x) (by simp [ints, hx])
      have hdl : l.drop k = x :: l.drop (k + 1) := by
        rw [List.drop_eq_getElem_cons hlt]
        congr 1
        rw [List.getElem?_eq_getElem hlt] at hx
        injection hx
      have HD := Lib.hid hdl
      clear hdl hx
      by_cases hlt' : k < m.length
      · obtain ⟨y, hy⟩ : ∃ y, m[k]? = some y := ⟨_, List.getElem?_eq_getElem hlt'⟩
        obtain ⟨b', o', rfl, hb', hc'⟩ := h'.one (i := k) (x := .int .i64 y) (by simp [ints, hy])
        have hdm : m.drop k = y :: m.drop (k + 1) := by
          rw [List.drop_eq_getElem_cons hlt']
          congr 1
          rw [List.getElem?_eq_getElem hlt'] at hy
          injection hy
        have HM := Lib.hid hdm
        clear hdm hy
        by_cases hcmp : cmpI x y = 0
        · have HC := Lib.hid hcmp
          have HF := Lib.hid (show lexI l m = lexI (l.drop (k + 1)) (m.drop (k + 1)) from by rw [HL.out, HD.out, HM.out, lexI, if_neg (by simpa using hcmp)])
          clear hcmp
          go_wp2_with (go_at_call 119; refine (cmp_any _ _ _).mono ?_; rintro e w' ⟨rfl, rfl⟩; rw [HC.out])
          go_round
          case rel => exact ⟨k + 1, by omega, by omega, by go_num, HF.out⟩
          case measure => simp [intOf]; omega
        · have HF := Lib.hid (show lexI l m = cmpI x y from by rw [HL.out, HD.out, HM.out, lexI, if_pos hcmp])
          have hne : (cmpI x y != 0) = true := by simpa using hcmp
          clear hcmp
          go_wp2_with (go_at_call 119; refine (cmp_any _ _ _).mono ?_; rintro e w' ⟨rfl, rfl⟩)
          go_ret
          exact ⟨ret_int (by rw [HF.out]), rfl⟩
      · have HF := Lib.hid (show lexI l m = 1 from by rw [HL.out, HD.out, List.drop_eq_nil_of_le (by omega : m.length ≤ k), lexI])
        have hkm : (m.length : Int) ≤ (k : Int) := by omega
        go_wp2
        go_ret
        exact ⟨ret_int (by rw [HF.out]), rfl⟩
    · by_cases hlm : l.length < m.length
      · have HF := Lib.hid (show lexI l m = -1 from by
          rw [HL.out, List.drop_eq_nil_of_le (by omega : l.length ≤ k), List.drop_eq_getElem_cons (by omega : k < m.length), lexI])
        have hlm' : (l.length : Int) < (m.length : Int) := by omega
        go_wp2
        go_ret
        exact ⟨ret_int (by rw [HF.out]), rfl⟩
      · have HF := Lib.hid (show lexI l m = 0 from by
          rw [HL.out, List.drop_eq_nil_of_le (by omega : l.length ≤ k), List.drop_eq_nil_of_le (by omega : m.length ≤ k), lexI])
        have hlm' : (m.length : Int) ≤ (l.length : Int) := by omega
        go_wp2
        go_ret
        exact ⟨ret_int (by rw [HF.out]), rfl⟩
theorem or_any (l : List Int) (A : Option Addr) (c : Nat) (w : World) (B : Nat) (h : Rd w B 1 A l.length (ints l)) (hl : l.length ≤ 1000) :
    Calls Tryz.prog 118 #[.slice A l.length c] w fun e w' => e = .returned (.int .i64 (orI l)) ∧ w = w' := by
  go_enter Tryz.func118, Tryz.ntmps118
  go_wp2
  go_loop [8] (fun i => ∃ k : Nat, k ≤ l.length ∧ i = .int .i64 k ∧ orI l = orI (l.drop k)) (fun i => l.length - (intOf i).toNat)
  case atStart => exact ⟨0, Nat.zero_le _, rfl, by simp⟩
  case round =>
    obtain ⟨k, hk, rfl, ho⟩ := hrel
    have HL := Lib.hid ho
    clear ho
    by_cases hlt : k < l.length
    · obtain ⟨x, hx⟩ : ∃ x, l[k]? = some x := ⟨_, List.getElem?_eq_getElem hlt⟩
      obtain ⟨b, o, rfl, hb, hc⟩ := h.one (i := k) (x := .int .i64 x) (by simp [ints, hx])
      have hdl : l.drop k = x :: l.drop (k + 1) := by
        rw [List.drop_eq_getElem_cons hlt]
        congr 1
        rw [List.getElem?_eq_getElem hlt] at hx
        injection hx
      have HD := Lib.hid hdl
      clear hdl hx
      by_cases hx0 : x = 0
      · have HF := Lib.hid (show orI l = orI (l.drop (k + 1)) from by rw [HL.out, HD.out, orI_cons, if_neg (by simpa using hx0)])
        subst hx0
        go_wp2
        go_round
        case rel => exact ⟨k + 1, by omega, by go_num, HF.out⟩
        case measure => simp [intOf]; omega
      · have HF := Lib.hid (show orI l = x from by rw [HL.out, HD.out, orI_cons, if_pos hx0])
        have hne : (x != 0) = true := by simpa using hx0
        clear hx0
        go_wp2
        go_ret
        exact ⟨ret_int (by rw [HF.out]), rfl⟩
    · have HF := Lib.hid (show orI l = 0 from by rw [HL.out, List.drop_eq_nil_of_le (by omega)]; rfl)
      go_wp2
      go_ret
      exact ⟨ret_int (by rw [HF.out]), rfl⟩

theorem still_of {P : Program} {f : FuncId} {args : Array Value} {w : World} {v : Value} (h : Calls P f args w fun e w' => e = .returned v ∧ w = w') : Calls P f args w (fun e w'' => e = .returned v ∧ w'' = w) :=
  h.mono fun _ _ h => ⟨h.1, h.2.symm⟩
set_option maxRecDepth 100000 in
set_option maxHeartbeats 1000000 in
theorem compare_any (a b : Rt) (A A' : Option Addr) (c c' : Nat) (w : World) (h : RtR w w.heap.size a A c) (h' : RtR w w.heap.size b A' c') :
    Calls Tryz.prog 98 #[rtV a A c, rtV b A' c'] w fun e w' => e = .returned (.int .i64 (cmpR a b)) ∧ Below w.heap.size w w' := by
  have hl : a.path.length ≤ maxLen := Nat.le_trans h.2.1 h.2.2
  have hl' : b.path.length ≤ maxLen := Nat.le_trans h'.2.1 h'.2.2
  have HA := Lib.hid (fun o o' => (h.1.alloc (Nat.le_refl _) o).alloc (by simp) o')
  have HB := Lib.hid (fun o o' => (h'.1.alloc (Nat.le_refl _) o).alloc (by simp) o')
  clear h h'
  unfold rtV
  go_enter Tryz.func98, Tryz.ntmps98
  go_wp2_with fail
  refine wp_region_still_tail 24 (by kernel_rfl) (by kernel_rfl) ?_
  change wpStill _ _ (World.drew _) _ _ _
  simp only [List.take_succ_cons, List.take_zero, List.drop_succ_cons, List.drop_zero]
  repeat still_step
  still_call (still_of (rank_any _ _))
  repeat still_step
  still_call (still_of (rank_any _ _))
  repeat still_step
  still_call (still_of (cmp_any _ _ _))
  repeat still_step
  still_call (still_of (cmp_any _ _ _))
  repeat still_step
  still_call (still_of (cmp_any _ _ _))
  repeat still_step
  still_call (still_of (cmpS_any a.path b.path A A' c c' _ _ _ (HA.out _ _) (HB.out _ _) hl hl'))
  repeat still_step
  refine wpStill_nil ?_
  change wpList _ _ _ _ _ (World.drew _)
  have hbel : Below w.heap.size w ((w.alloc (.cells #[.int .i64 a.kind, .int .i64 a.cost, .slice A a.path.length c] 48)).alloc (.cells #[.int .i64 b.kind, .int .i64 b.cost, .slice A' b.path.length c'] 48)).drew := (((Below.refl _ _).alloc (Nat.le_refl _) _).alloc (by simp) _).drew
  generalize ((w.alloc (.cells #[.int .i64 a.kind, .int .i64 a.cost, .slice A a.path.length c] 48)).alloc (.cells #[.int .i64 b.kind, .int .i64 b.cost, .slice A' b.path.length c'] 48)).drew = w2 at hbel
  have HL := Lib.hid hbel
  have hsz := hbel.size
  clear hbel
  go_wp2_with (go_at_call 118; refine (or_any [cmpI (rankI b.kind) (rankI a.kind), cmpI a.cost b.cost, cmpI a.path.length b.path.length, lexI a.path b.path] _ _ _ _ (Rd.new (by simp) rfl) (by simp)).mono ?_; rintro e w' ⟨rfl, rfl⟩)
  go_ret
  exact ⟨rfl, HL.out.alloc hsz _⟩
end

section
open Go.RowKit Go.Sort

theorem Rd.ints_at {w : World} {B b o : Nat} {l : List Int} (h : Rd w B 1 (some ⟨b, o, none⟩) l.length (ints l)) : ∀ j, j < l.length → w.cell? ⟨b, o + j, none⟩ = some (.int .i64 (l.getD j 0)) := by
  intro j hj
  obtain ⟨b', o', e, _, hc⟩ := h.2 (by omega)
  injection e with e
  injection e with e1 e2
  subst e1 e2
  exact hc j _ (by simp [ints, hj])
theorem below_drewN' {B : Nat} {a w : World} (h : Below B a w) (n : Nat) : Below B a (w.drewN n) := h.trans ⟨rfl, rfl, rfl, Nat.le_refl _, fun _ _ => rfl⟩
theorem eqS_any (l m : List Int) (A A' : Option Addr) (c c' : Nat) (w : World) (B B' : Nat) (h : Rd w B 1 A l.length (ints l)) (h' : Rd w B' 1 A' m.length (ints m)) (hl : l.length ≤ maxLen) (hm : m.length ≤ maxLen) :
    Calls Tryz.prog 77 #[.slice A l.length c, .slice A' m.length c'] w fun e w' => e = .returned (.bool (decide (l = m))) ∧ Below w.heap.size w w' := by
  unfold maxLen at hl hm
  by_cases hlen : l.length = m.length
  · by_cases h0 : l.length = 0
    · have el : l = [] := List.eq_nil_of_length_eq_zero h0
      have em : m = [] := List.eq_nil_of_length_eq_zero (by omega)
      subst el em
      exact (Tryz.slices_Equal_int_empty A A' c 0 c' w (by omega)).mono fun e w' ⟨h1, h2⟩ => ⟨by rw [h1]; simp, by rw [h2]; exact Below.refl _ _⟩
    · obtain ⟨b, o, rfl, _⟩ := h.2 (by omega)
      obtain ⟨b', o', rfl, _⟩ := h'.2 (by omega)
      refine (Tryz.slices_Equal_int b o l.length c b' o' m.length c' l m w (Nat.le_refl _) (Nat.le_refl _) (by omega) (by omega) h.ints_at h'.ints_at).mono ?_
      rintro e w' ⟨rfl, q, rfl⟩
      refine ⟨?_, below_drewN' (Below.refl _ _) _⟩
      rw [List.take_length, List.take_length]
      congr 2
      rw [Bool.eq_iff_iff]; simp
  · exact (Tryz.slices_Equal_int_lens A A' l.length c m.length c' w hlen).mono fun e w' ⟨h1, h2⟩ => ⟨by rw [h1]; simp; rintro rfl; exact hlen rfl, by rw [h2]; exact Below.refl _ _⟩

/-- A copy in memory of the call's own. -/
def ClonePost (l : List Int) (w : World) (e : Ending) (w' : World) : Prop :=
  ∃ A c, e = .returned (.slice A l.length c) ∧ Own w' w.heap.size 3 1 A l.length c (ints l) ∧ (A = none ∨ ∃ g, A = some ⟨g, 0, none⟩) ∧ Below w.heap.size w w'
theorem clone_any (l : List Int) (A : Option Addr) (c : Nat) (w : World) (B : Nat) (h : Rd w B 1 A l.length (ints l)) (hl : l.length ≤ 1000000) :
    Calls Tryz.prog 99 #[.slice A l.length c] w (ClonePost l w) := by
  cases A with
  | none =>
    have h0 : l = [] := by
      cases l with
      | nil => rfl
      | cons x l => obtain ⟨b, o, e, _⟩ := h.2 (by simp); cases e
    subst h0
    exact (Tryz.slices_Clone_int_nil _ c w).mono fun e w' ⟨h1, h2⟩ => ⟨none, 0, h1, Own.nil _ _ _ _, .inl rfl, by rw [h2]; exact Below.refl _ _⟩
  | some a =>
    by_cases h0 : l.length = 0
    · have el : l = [] := List.eq_nil_of_length_eq_zero h0
      subst el
      refine (Tryz.slices_Clone_int_zero a c w).mono ?_
      rintro e w' ⟨v', rfl, ho, hne, hb⟩
      obtain ⟨A', c', rfl, hO, hA⟩ := Own.of_row ho
      exact ⟨A', c', rfl, hO, hA, hb⟩
    · obtain ⟨b, o, e, _⟩ := h.2 (by omega)
      injection e with e
      subst e
      refine (Tryz.slices_Clone_int b o l.length c l w (Nat.le_refl _) (by omega) h.ints_at).mono ?_
      rintro e w' ⟨v', rfl, ho, hne, hb⟩
      obtain ⟨A', c', rfl, hO, hA⟩ := Own.of_row ho
      rw [List.take_length] at hO
      exact ⟨A', c', rfl, hO, hA, hb⟩
theorem sortI_any (l : List Int) (A : Option Addr) (c B : Nat) (w : World) (h : Own w B 3 1 A l.length c (ints l)) (hl : l.length ≤ 1000000) :
    Calls Tryz.prog 135 #[.slice A l.length c] w fun e w' => e = .returned (.tuple #[]) ∧ Own w' B 3 1 A l.length c (ints (l.mergeSort fun x y => decide (x ≤ y))) ∧ w.grownBy w' (blk A) := by
  by_cases h0 : l.length = 0
  · have el : l = [] := List.eq_nil_of_length_eq_zero h0
    subst el
    exact (Tryz.slices_Sort_int_none A c w).mono fun e w' ⟨h1, h2⟩ => ⟨h1, by rw [h2]; simpa using h, by rw [h2]; exact World.grownBy.refl _ _⟩
  · have hc : 0 < c := by have := h.2.1; omega
    obtain ⟨g, off, cur, rfl, hh, _⟩ := h.2.2.2.2.2 hc
    refine (Tryz.slices_Sort_int g off c l w (Own.holdsE h hc) (lt_heap hh) (by omega)).mono ?_
    rintro e w' ⟨rfl, n, os, rfl⟩
    have hp := Own.putRowE (q := n) (os := os) (ys := l.mergeSort fun x y => decide (x ≤ y)) h hc (by simp)
    refine ⟨rfl, ?_, hp.2⟩
    have := hp.1
    rwa [List.length_mergeSort] at this
theorem compactI_any (l : List Int) (A : Option Addr) (c B : Nat) (w : World) (h : Own w B 3 1 A l.length c (ints l)) (hl : l.length ≤ 1000000) :
    Calls Tryz.prog 136 #[.slice A l.length c] w fun e w' => e = .returned (.slice A (Lib.compact l).length c) ∧ w.grownBy w' (blk A) := by
  by_cases h0 : l.length = 0
  · have el : l = [] := List.eq_nil_of_length_eq_zero h0
    subst el
    exact (Tryz.slices_Compact_int_empty A c w).mono fun e w' ⟨h1, h2⟩ => ⟨h1, by rw [h2]; exact World.grownBy.refl _ _⟩
  · have hc : 0 < c := by have := h.2.1; omega
    obtain ⟨g, off, cur, rfl, hh, _⟩ := h.2.2.2.2.2 hc
    refine (Tryz.slices_Compact_int g off c l w (Own.holdsE h hc) (by omega) h.2.1).mono ?_
    rintro e w' ⟨rfl, q, rfl⟩
    refine ⟨rfl, ⟨rfl, rfl, rfl, by simp, fun k hk hne => ?_⟩⟩
    have : g ≠ k := fun e => hne (by rw [e]; rfl)
    simp [Go.Sort.putRow, mapBlock, Sort.ahead, Array.getElem?_modify, this]

/-! ### Right -/
theorem list1_any (n : Int) (w : World) : Calls Tryz.prog 134 #[.int .i64 n] w fun e w' => e = .returned (.bool (badNum n)) ∧ Below w.heap.size w w' := by
  go_enter Tryz.func134, Tryz.ntmps134
  go_wp2
  all_goals go_ret
  all_goals exact ⟨ret_bool (by unfold badNum; first | rfl | (rw [Bool.eq_iff_iff]; simp only [Bool.or_eq_true, Bool.and_eq_true, decide_eq_true_eq, beq_iff_eq, Bool.false_eq_true, false_iff, iff_false, true_iff, iff_true, or_false, false_or, and_true, true_and]; omega)), Below.refl _ _⟩
set_option maxHeartbeats 1000000 in
theorem ixNum (l : List Int) (A : Option Addr) (c : Nat) (w : World) (h : Rd w w.heap.size 1 A l.length (ints l)) (hl : l.length ≤ 10000)  :
    Calls Tryz.prog 137 #[.slice A l.length c, .func (.func 134) #[] #[]] w (IxPost (l.any (badNum)) w) := by
  go_enter Tryz.func137, Tryz.ntmps137
  go_wp2_with fail
  go_loopw [8] (fun i wr => ∃ k : Nat, k ≤ l.length ∧ i = .int .i64 k ∧ (l.take k).any (badNum) = false ∧ Below w.heap.size w wr) (fun i _ => l.length - (intOf i).toNat)
  case atStart => exact ⟨0, Nat.zero_le _, rfl, by simp, Below.refl _ _⟩
  case round =>
    obtain ⟨k, hk, rfl, hall, hbel⟩ := hrel
    have hsz := hbel.size
    have HA := Lib.hid hall
    clear hall
    by_cases hlt : k < l.length
    · obtain ⟨x, hx⟩ : ∃ x, l[k]? = some x := ⟨_, List.getElem?_eq_getElem hlt⟩
      have hts : l.take (k + 1) = l.take k ++ [x] := by
        rw [List.take_add_one, hx]; rfl
      obtain ⟨b, o, rfl, hb, hc0⟩ := h.one (i := k) (x := .int .i64 x) (by simp [ints, hx])
      rw [← hbel.cell hb] at hc0
      have HX := Lib.hid hx
      have HT := Lib.hid hts
      clear hx hts h
      by_cases he : badNum x = true
      · have hfin : ∀ w', Below w.heap.size w w' → IxPost (l.any (badNum)) w (.returned (.int .i64 k)) w' := by
          intro w' hb'
          refine ⟨k, rfl, ?_, hb'⟩
          have h1 : decide ((0 : Int) ≤ (k : Int)) = true := by simp
          rw [h1]
          symm
          rw [List.any_eq_true]
          exact ⟨x, List.mem_of_getElem? HX.out, he⟩
        have HF := Lib.hid hfin
        have HE := Lib.hid he
        clear hfin he
        go_wp2_with fail
        refine (list1_any x _).mono ?_
        rintro e w1 ⟨rfl, hb1⟩
        rw [HE.out]
        go_wp2
        go_ret
        exact HF.out _ (hbel.trans (hb1.mono hsz))
      · have he : badNum x = false := by simpa using he
        have HE := Lib.hid he
        clear he
        go_wp2_with fail
        refine (list1_any x _).mono ?_
        rintro e w1 ⟨rfl, hb1⟩
        rw [HE.out]
        go_wp2
        go_roundw
        case rel => exact ⟨k + 1, by omega, by go_num, by rw [HT.out, List.any_append, HA.out]; simp [HE.out], hbel.trans (hb1.mono hsz)⟩
        case measure => simp [intOf]; omega
    · have hfin : IxPost (l.any (badNum)) w (.returned (.int .i64 (-1))) wr := by
        refine ⟨-1, rfl, ?_, hbel⟩
        have := HA.out
        rw [List.take_of_length_le (by omega)] at this
        rw [this]; simp
      have HF := Lib.hid hfin
      clear hfin h
      go_wp2
      go_ret
      exact HF.out
theorem cfNum (l : List Int) (A : Option Addr) (c : Nat) (w : World) (h : Rd w w.heap.size 1 A l.length (ints l)) (hl : l.length ≤ 10000)  :
    Calls Tryz.prog 133 #[.slice A l.length c, .func (.func 134) #[] #[]] w fun e w' => e = .returned (.bool (l.any (badNum))) ∧ Below w.heap.size w w' := by
  go_enter Tryz.func133, Tryz.ntmps133
  go_wp2_with (go_at_call 137; refine (ixNum l A c _ h hl).mono ?_; rintro e w1 ⟨r, rfl, hr, hb1⟩)
  go_ret
  exact ⟨ret_bool (by rw [← hr]), hb1⟩
set_option maxHeartbeats 400000 in
theorem list_any (l : List Int) (A : Option Addr) (c : Nat) (w : World) (h : Rd w w.heap.size 1 A l.length (ints l)) (hl : l.length ≤ maxLen) :
    Calls Tryz.prog 129 #[.slice A l.length c] w fun e w' => e = .returned (.bool (listB l)) ∧ Below w.heap.size w w' := by
  unfold maxLen at hl
  by_cases h12 : l.length ≤ 12
  · have h12' : (l.length : Int) ≤ 12 := by omega
    by_cases hb : l.any badNum = true
    · have HN := Lib.hid (show listB l = false from by unfold listB; rw [hb]; simp)
      have HB := Lib.hid hb
      have HH := Lib.hid h
      clear hb h
      go_enter Tryz.func129, Tryz.ntmps129
      go_wp2_with fail
      refine (cfNum l A c _ HH.out (by omega)).mono ?_
      rintro e w1 ⟨rfl, hb1⟩
      rw [HB.out]
      go_wp2
      go_ret
      exact ⟨ret_bool (by rw [HN.out]), hb1⟩
    · replace hb : l.any badNum = false := by simpa using hb
      have HN := Lib.hid (show listB l = decide l.Nodup from by unfold listB; rw [hb]; simp [h12])
      have HB := Lib.hid hb
      have HH := Lib.hid h
      clear hb h
      go_enter Tryz.func129, Tryz.ntmps129
      go_wp2_with fail
      refine (cfNum l A c _ HH.out (by omega)).mono ?_
      rintro e w1 ⟨rfl, hb1⟩
      rw [HB.out]
      go_wp2_with fail
      refine (clone_any l A c w1 _ (HH.out.below hb1 (Nat.le_refl _)) (by omega)).mono ?_
      rintro e w2 ⟨A2, c2, rfl, ho2, hA2, hb2⟩
      have hbb := hb1.trans (hb2.mono hb1.size)
      have hfr := ho2.from_
      have hs1 := hb1.size
      go_wp2_with fail
      refine (sortI_any l A2 c2 _ w2 ho2 (by omega)).mono ?_
      rintro e w3 ⟨rfl, ho3, hg3⟩
      have hbc := hbb.grown hg3 hbb.size (fun g hg => by have := hfr g hg; omega)
      have hlen : (l.mergeSort fun x y => decide (x ≤ y)).length = l.length := List.length_mergeSort _
      have HO : Hid (Own w3 w1.heap.size 3 1 A2 (l.mergeSort fun x y => decide (x ≤ y)).length c2 (ints (l.mergeSort fun x y => decide (x ≤ y)))) := Lib.hid (by rw [hlen]; exact ho3)
      have HC := compactI_any (l.mergeSort fun x y => decide (x ≤ y)) A2 c2 _ w3 HO.out (by rw [hlen]; omega)
      rw [hlen] at HC
      have HC := Lib.hid HC
      have HK := Lib.hid (compact_nodup l)
      have HD := Lib.hid hbc
      have HF := Lib.hid (show ∀ g, blk A2 = some g → w.heap.size ≤ g from fun g hg => by have := hfr g hg; omega)
      clear ho2 hb2 hbb hfr hs1 ho3 hg3 hbc hlen hb1 HO hA2
      go_wp2_with fail
      refine HC.out.mono ?_
      rintro e w4 ⟨rfl, hg4⟩
      have HG := Lib.hid (HD.out.grown hg4 HD.out.size (fun g hg => by have := HF.out g hg; have := HD.out.size; omega))
      clear hg4
      go_wp2
      go_ret
      refine ⟨ret_bool ?_, HG.out⟩
      rw [HN.out, Bool.eq_iff_iff]
      simp only [beq_iff_eq, decide_eq_true_eq]
      rw [← HK.out]
      omega
  · have h12' : (12 : Int) < l.length := by omega
    have HN := Lib.hid (show listB l = false from by simp [listB, h12])
    clear h
    go_enter Tryz.func129, Tryz.ntmps129
    go_wp2
    go_ret
    exact ⟨ret_bool (by rw [HN.out]), Below.refl _ _⟩

theorem right_rt (r : Rt) (A : Option Addr) (c : Nat) (w : World) (h : RtR w w.heap.size r A c) : Calls Tryz.prog 116 #[rtV r A c] w fun e w' => e = .returned (.bool (rtRightB r)) ∧ Below w.heap.size w w' := by
  have hl : r.path.length ≤ maxLen := Nat.le_trans h.2.1 h.2.2
  have HH := Lib.hid (fun o => (h.1.alloc (Nat.le_refl _) o).more (by simp : w.heap.size ≤ (w.alloc o).heap.size))
  have HB := Lib.hid (fun o => (Below.refl w.heap.size w).alloc (Nat.le_refl _) o)
  clear h
  unfold rtV
  by_cases h0 : r.kind = 0
  · have b0 : (r.kind == 0) = true := by simp [h0]
    have HN := Lib.hid (show rtRightB r = (decide (r.cost = 0) && decide (r.path.length = 0)) from by simp [rtRightB, h0])
    by_cases hc : r.cost = 0
    · have bc : (r.cost == 0) = true := by simp [hc]
      have HN := Lib.hid (show rtRightB r = decide (r.path.length = 0) from by rw [HN.out]; simp [hc])
      clear h0 hc
      go_enter Tryz.func116, Tryz.ntmps116
      go_wp2
      go_ret
      exact ⟨ret_bool (by rw [HN.out]; rw [Bool.eq_iff_iff]; simp), HB.out _⟩
    · have bc : (r.cost == 0) = false := by simp [hc]
      have HN := Lib.hid (show rtRightB r = false from by rw [HN.out]; simp [hc])
      clear h0 hc
      go_enter Tryz.func116, Tryz.ntmps116
      go_wp2
      go_ret
      exact ⟨ret_bool (by rw [HN.out]), HB.out _⟩
  have b0 : (r.kind == 0) = false := by simp [h0]
  by_cases h1 : r.kind = 1
  · have b1 : (r.kind == 1) = true := by simp [h1]
    have HN := Lib.hid (show rtRightB r = (decide (0 ≤ r.cost) && decide (r.cost ≤ 15) && decide (r.path.length = 0)) from by simp [rtRightB, h1])
    by_cases hc : 0 ≤ r.cost
    · by_cases hc' : r.cost ≤ 15
      · have HN := Lib.hid (show rtRightB r = decide (r.path.length = 0) from by rw [HN.out]; simp [hc, hc'])
        clear h0 h1
        go_enter Tryz.func116, Tryz.ntmps116
        go_wp2
        go_ret
        exact ⟨ret_bool (by rw [HN.out]; rw [Bool.eq_iff_iff]; simp), HB.out _⟩
      · have hc'' : decide (r.cost ≤ 15) = false := by simpa using hc'
        have HN := Lib.hid (show rtRightB r = false from by rw [HN.out]; simp [hc'])
        clear h0 h1
        go_enter Tryz.func116, Tryz.ntmps116
        go_wp2
        go_ret
        exact ⟨ret_bool (by rw [HN.out]), HB.out _⟩
    · have hc'' : decide (0 ≤ r.cost) = false := by simpa using hc
      have HN := Lib.hid (show rtRightB r = false from by rw [HN.out]; simp [hc])
      clear h0 h1
      go_enter Tryz.func116, Tryz.ntmps116
      go_wp2
      go_ret
      exact ⟨ret_bool (by rw [HN.out]), HB.out _⟩
  have b1 : (r.kind == 1) = false := by simp [h1]
  by_cases h2 : r.kind = 2
  · have b2 : (r.kind == 2) = true := by simp [h2]
    have HN := Lib.hid (show rtRightB r = (decide (r.cost = 0) && listB r.path) from by simp [rtRightB, h2])
    by_cases hc : r.cost = 0
    · have bc : (r.cost == 0) = true := by simp [hc]
      have HN := Lib.hid (show rtRightB r = listB r.path from by rw [HN.out]; simp [hc])
      clear h0 h1 h2 hc
      go_enter Tryz.func116, Tryz.ntmps116
      go_wp2_with fail
      refine (list_any r.path A c _ (HH.out _) hl).mono ?_
      rintro e w1 ⟨rfl, hb1⟩
      go_wp2
      go_ret
      exact ⟨ret_bool (by rw [HN.out]), (HB.out _).trans (hb1.mono (by simp))⟩
    · have bc : (r.cost == 0) = false := by simp [hc]
      have HN := Lib.hid (show rtRightB r = false from by rw [HN.out]; simp [hc])
      clear h0 h1 h2 hc
      go_enter Tryz.func116, Tryz.ntmps116
      go_wp2
      go_ret
      exact ⟨ret_bool (by rw [HN.out]), HB.out _⟩
  have b2 : (r.kind == 2) = false := by simp [h2]
  have HN := Lib.hid (show rtRightB r = false from by simp [rtRightB, h0, h1, h2])
  clear h0 h1 h2
  go_enter Tryz.func116, Tryz.ntmps116
  go_wp2
  go_ret
  exact ⟨ret_bool (by rw [HN.out]), HB.out _⟩

theorem same_rt (a b : Rt) (A A' : Option Addr) (c c' : Nat) (w : World) (h : RtR w w.heap.size a A c) (h' : RtR w w.heap.size b A' c') :
    Calls Tryz.prog 49 #[rtV a A c, rtV b A' c'] w fun e w' => e = .returned (.bool (decide (a = b))) ∧ Below w.heap.size w w' := by
  have hl : a.path.length ≤ maxLen := Nat.le_trans h.2.1 h.2.2
  have hl' : b.path.length ≤ maxLen := Nat.le_trans h'.2.1 h'.2.2
  have HA := Lib.hid (fun o o' => (h.1.alloc (Nat.le_refl _) o).alloc (by simp) o')
  have HA' := Lib.hid (fun o o' => (h'.1.alloc (Nat.le_refl _) o).alloc (by simp) o')
  have HB := Lib.hid (fun o o' => ((Below.refl w.heap.size w).alloc (Nat.le_refl _) o).alloc (by simp) o')
  have HE := Lib.hid (show decide (a = b) = (decide (a.kind = b.kind) && (decide (a.cost = b.cost) && decide (a.path = b.path))) from by
    rw [Bool.eq_iff_iff]
    cases a; cases b
    simp)
  clear h h'
  unfold rtV
  by_cases hk : a.kind = b.kind
  · have bk : (a.kind == b.kind) = true := by simp [hk]
    by_cases hc : a.cost = b.cost
    · have bc : (a.cost == b.cost) = true := by simp [hc]
      have HN := Lib.hid (show decide (a = b) = decide (a.path = b.path) from by rw [HE.out]; simp [hk, hc])
      clear hk hc
      go_enter Tryz.func49, Tryz.ntmps49
      go_wp2_with fail
      refine (eqS_any a.path b.path A A' c c' _ _ _ (HA.out _ _) (HA'.out _ _) hl hl').mono ?_
      rintro e w1 ⟨rfl, hb1⟩
      go_wp2
      go_ret
      exact ⟨ret_bool (by rw [HN.out]), (HB.out _ _).trans (hb1.mono (by simp; omega))⟩
    · have bc : (a.cost == b.cost) = false := by simp [hc]
      have HN := Lib.hid (show decide (a = b) = false from by rw [HE.out]; simp [hc])
      clear hk hc
      go_enter Tryz.func49, Tryz.ntmps49
      go_wp2
      go_ret
      exact ⟨ret_bool (by rw [HN.out]), HB.out _ _⟩
  · have bk : (a.kind == b.kind) = false := by simp [hk]
    have HN := Lib.hid (show decide (a = b) = false from by rw [HE.out]; simp [hk])
    clear hk
    go_enter Tryz.func49, Tryz.ntmps49
    go_wp2
    go_ret
    exact ⟨ret_bool (by rw [HN.out]), HB.out _ _⟩
def betterB (a b : Rt) : Bool := decide (cmpR a b = -1)
end

section
/-! ### Plainly -/
def numOf (x : Int) : Int := if 1000 < x then 1 + pickV x 65535 else 1 + pickV x 9
def stepP (acc : List Int) (x : Int) : List Int := if acc.length < 12 then (if numOf x ∈ acc then acc else acc ++ [numOf x]) else acc
def pathOf (raw : List Int) : List Int := (raw.drop 1).foldl stepP []
def routeR (raw : List Int) : Rt :=
  match raw with
  | [] => rtNone
  | x :: r => if pickV x 4 = 0 then rtNone else if pickV x 4 = 1 then ⟨1, (match r with | [] => 0 | y :: _ => pickV y 16), []⟩ else ⟨2, 0, pathOf raw⟩
theorem numOf_in (x : Int) : 1 ≤ numOf x ∧ numOf x ≤ 65535 := by
  unfold numOf
  have h1 := pickV_in (c := x) (n := 65535) (by omega)
  have h2 := pickV_in (c := x) (n := 9) (by omega)
  split <;> omega
/-- A path that may be. -/
def PathOk (l : List Int) : Prop := l.length ≤ 12 ∧ l.Nodup ∧ ∀ x ∈ l, 1 ≤ x ∧ x ≤ 65535
theorem PathOk.step {l : List Int} (h : PathOk l) (x : Int) : PathOk (stepP l x) := by
  obtain ⟨h1, h2, h3⟩ := h
  unfold stepP
  split
  · split
    · exact ⟨h1, h2, h3⟩
    · rename_i hl hm
      refine ⟨by simp; omega, ?_, ?_⟩
      · rw [List.nodup_append]
        refine ⟨h2, by simp, ?_⟩
        intro a ha b hb
        simp at hb
        subst hb
        rintro rfl
        exact hm ha
      · intro y hy
        rcases List.mem_append.1 hy with hy | hy
        · exact h3 y hy
        · simp at hy; subst hy; exact numOf_in x
  · exact ⟨h1, h2, h3⟩
theorem pathOk_fold : ∀ (r l : List Int), PathOk l → PathOk (r.foldl stepP l)
  | [], _, h => h
  | x :: r, l, h => pathOk_fold r _ (h.step x)
theorem pathOf_ok (raw : List Int) : PathOk (pathOf raw) := pathOk_fold _ _ ⟨by simp, by simp, by simp⟩
theorem PathOk.listB {l : List Int} (h : PathOk l) : listB l = true := by
  unfold YtakolnmoieiicaaGreat.listB
  have h3 : l.any badNum = false := by
    rw [List.any_eq_false]
    intro x hx
    have := h.2.2 x hx
    simp [badNum]; omega
  rw [h3]; simp [h.1, h.2.1]
theorem stop_fold : ∀ (r l : List Int), ¬ l.length < 12 → r.foldl stepP l = l
  | [], _, _ => rfl
  | x :: r, l, h => by
    simp only [List.foldl_cons]
    have : stepP l x = l := by unfold stepP; rw [if_neg h]
    rw [this]; exact stop_fold r l h
/-- What Route hands back may be. -/
structure RtOk (r : Rt) : Prop where
  kind : r.kind = 0 ∨ r.kind = 1 ∨ r.kind = 2
  k0 : r.kind = 0 → r = rtNone
  k1 : r.kind = 1 → 0 ≤ r.cost ∧ r.cost ≤ 15 ∧ r.path = []
  k2 : r.kind = 2 → r.cost = 0 ∧ PathOk r.path
theorem RtOk.right {r : Rt} (h : RtOk r) : rtRightB r = true := by
  rcases h.kind with e | e | e
  · rw [h.k0 e]; rfl
  · have := h.k1 e
    simp [rtRightB, e, this]
  · have := h.k2 e
    simp [rtRightB, e, this.1, this.2.listB]
theorem routeR_ok (raw : List Int) : RtOk (routeR raw) := by
  unfold routeR
  split
  · exact ⟨.inl rfl, (fun _ => rfl), (fun h => by cases h), (fun h => by cases h)⟩
  · rename_i x r
    split
    · exact ⟨.inl rfl, (fun _ => rfl), (fun h => by cases h), (fun h => by cases h)⟩
    · split
      · refine ⟨.inr (.inl rfl), (fun h => by simp at h), (fun _ => ⟨?_, ?_, rfl⟩), (fun h => by simp at h)⟩
        · dsimp only
          split
          · exact Int.le_refl _
          · exact (pickV_in (by omega)).1
        · dsimp only
          split
          · omega
          · rename_i y _ _
            have := (pickV_in (c := y) (n := 16) (by omega)).2
            omega
      · exact ⟨.inr (.inr rfl), (fun h => by simp at h), (fun h => by simp at h), (fun _ => ⟨rfl, pathOf_ok _⟩)⟩

/-! ### The walk -/
/-- The blocks of the walk: the answer's, and the route's that is being made. -/
structure RouteW (w wr : World) (l : List Int) (A : Option Addr) (c : Nat) : Prop where
  below : Below w.heap.size w wr
  size : w.heap.size + 2 ≤ wr.heap.size
  res : wr.heap[w.heap.size]? = some (.cells #[.int .i64 0, .int .i64 0, .slice none 0 0] 48 (0, 0))
  r : wr.heap[w.heap.size + 1]? = some (.cells #[.int .i64 2, .int .i64 0, .slice A l.length c] 48 (0, 0))
  own : Own wr (w.heap.size + 2) 3 1 A l.length c (ints l)
section
variable {w wr w' w2 : World} {l : List Int} {A : Option Addr} {c : Nat}
theorem RouteW.begin (w : World) : RouteW w ((w.alloc (.cells #[.int .i64 0, .int .i64 0, .slice none 0 0] 48)).alloc (.cells #[.int .i64 2, .int .i64 0, .slice none 0 0] 48)) [] none 0 where
  below := ((Below.refl _ _).alloc (Nat.le_refl _) _).alloc (by simp) _
  size := by simp
  res := (Below.heap_alloc _ _ _ (by simp)).trans (heap_alloc_new _ _)
  r := by have := heap_alloc_new (w.alloc (.cells #[.int .i64 0, .int .i64 0, .slice none 0 0] 48)) (.cells #[.int .i64 2, .int .i64 0, .slice none 0 0] 48); simpa using this
  own := Own.nil _ _ _ _
theorem RouteW.alloc (a : RouteW w wr l A c) (o : Obj) : RouteW w (wr.alloc o) l A c :=
  ⟨a.below.alloc (by have := a.size; omega) o, by have := a.size; simp; omega, (Below.heap_alloc _ _ _ (by have := a.size; omega)).trans a.res, (Below.heap_alloc _ _ _ (by have := a.size; omega)).trans a.r, a.own.alloc o⟩
theorem RouteW.at2 (a : RouteW w wr l A c) : wr.cell? ⟨w.heap.size + 1, 2, none⟩ = some (.slice A l.length c) := cell_of_row wr _ 2 _ _ _ a.r
theorem RouteW.free (a : RouteW w wr l A c) (i : Nat) : wr.frozen? ⟨w.heap.size + 1, i, none⟩ = false := frozen_of_row wr _ i _ _ a.r
theorem RouteW.grow (a : RouteW w wr l A c) (hg : wr.grownBy w2 (blk A)) : w2.heap[w.heap.size]? = some (.cells #[.int .i64 0, .int .i64 0, .slice none 0 0] 48 (0, 0)) ∧ w2.heap[w.heap.size + 1]? = some (.cells #[.int .i64 2, .int .i64 0, .slice A l.length c] 48 (0, 0)) := by
  have hs := a.size
  exact ⟨(hg.block _ (by omega) (fun e => by have := a.own.from_ _ e.symm; omega)).trans a.res, (hg.block _ (by omega) (fun e => by have := a.own.from_ _ e.symm; omega)).trans a.r⟩
theorem RouteW.cell2 (a : RouteW w wr l A c) (hg : wr.grownBy w2 (blk A)) : w2.cell? ⟨w.heap.size + 1, 2, none⟩ = some (.slice A l.length c) := cell_of_row w2 _ 2 _ _ _ (a.grow hg).2
theorem RouteW.free2 (a : RouteW w wr l A c) (hg : wr.grownBy w2 (blk A)) (i : Nat) : w2.frozen? ⟨w.heap.size + 1, i, none⟩ = false := frozen_of_row w2 _ i _ _ (a.grow hg).2
theorem RouteW.app (a : RouteW w wr l A c) {x : Int} {A2 : Option Addr} {c2 n : Nat} (hn : n = l.length + 1) (hg : wr.grownBy w2 (blk A)) (hown : Own w2 (w.heap.size + 2) 3 1 A2 n c2 (ints l ++ [.int .i64 x])) :
    RouteW w (w2.setCell ⟨w.heap.size + 1, 2, none⟩ (.slice A2 n c2)) (l ++ [x]) A2 c2 := by
  subst hn
  obtain ⟨h1, h2⟩ := a.grow hg
  have hs := a.size
  have hgs := hg.size
  refine ⟨(a.below.grown hg (by omega) (fun g hg => by have := a.own.from_ g hg; omega)).setCell (by simp) _, by simp [World.setCell]; omega, (Below.heap_setCell _ _ _ _ (by simp)).trans h1, ?_, ?_⟩
  · rw [heap_setCell_same _ _ _ _ _ _ h2]; simp
  · have := hown.setCell_far (p := ⟨w.heap.size + 1, 2, none⟩) (fun g hg => by have := hown.from_ g hg; simp; omega) (.slice A2 (l.length + 1) c2)
    simpa [ints] using this
theorem RouteW.resAt (a : RouteW w wr l A c) : wr.cell? ⟨w.heap.size, 0, none⟩ = some (.int .i64 0) ∧ wr.cell? ⟨w.heap.size, 1, none⟩ = some (.int .i64 0) ∧ wr.cell? ⟨w.heap.size, 2, none⟩ = some (.slice none 0 0) :=
  ⟨cell_of_row wr _ 0 _ _ _ a.res, cell_of_row wr _ 1 _ _ _ a.res, cell_of_row wr _ 2 _ _ _ a.res⟩
theorem RouteW.resFree (a : RouteW w wr l A c) (i : Nat) : wr.frozen? ⟨w.heap.size, i, none⟩ = false := frozen_of_row wr _ i _ _ a.res
theorem RouteW.rAt (a : RouteW w wr l A c) : wr.cell? ⟨w.heap.size + 1, 0, none⟩ = some (.int .i64 2) ∧ wr.cell? ⟨w.heap.size + 1, 1, none⟩ = some (.int .i64 0) ∧ wr.cell? ⟨w.heap.size + 1, 2, none⟩ = some (.slice A l.length c) :=
  ⟨cell_of_row wr _ 0 _ _ _ a.r, cell_of_row wr _ 1 _ _ _ a.r, cell_of_row wr _ 2 _ _ _ a.r⟩
end
def RoutePost (raw : List Int) (w : World) (e : Ending) (w' : World) : Prop :=
  ∃ A c, e = .returned (rtV (routeR raw) A c) ∧ Own w' w.heap.size 3 1 A (routeR raw).path.length c (ints (routeR raw).path) ∧ Below w.heap.size w w'
theorem RouteW.answer {w wr : World} {raw l : List Int} {A : Option Addr} {c : Nat} (a : RouteW w wr l A c) (h : routeR raw = ⟨2, 0, l⟩) :
    RoutePost raw w (.returned (rtV ⟨2, 0, l⟩ A c)) (((wr.setCell ⟨w.heap.size, 0, none⟩ (.int .i64 2)).setCell ⟨w.heap.size, 1, none⟩ (.int .i64 0)).setCell ⟨w.heap.size, 2, none⟩ (.slice A l.length c)) := by
  have hf : ∀ {wx : World} (i : Nat) (v : Value), Own wx (w.heap.size + 2) 3 1 A l.length c (ints l) → Own (wx.setCell ⟨w.heap.size, i, none⟩ v) (w.heap.size + 2) 3 1 A l.length c (ints l) :=
    fun i v h => h.setCell_far (fun g hg => by have := h.from_ g hg; simp; omega) v
  refine ⟨A, c, by rw [h], ?_, ((a.below.setCell (by simp) _).setCell (by simp) _).setCell (by simp) _⟩
  rw [h]
  exact (hf _ _ (hf _ _ (hf _ _ a.own))).more (by omega)
end

section
/-- Block b holds a route, whose list reads. -/
structure Box (w : World) (b : Nat) (r : Rt) (A : Option Addr) (c : Nat) : Prop where
  box : w.heap[b]? = some (.cells #[.int .i64 r.kind, .int .i64 r.cost, .slice A r.path.length c] 48 (0, 0))
  rt : RtR w w.heap.size r A c
section
variable {w w' : World} {b : Nat} {r : Rt} {A : Option Addr} {c : Nat}
theorem RtR.of_own {B : Nat} (h : Own w B 3 1 A r.path.length c (ints r.path)) : RtR w w.heap.size r A c := ⟨h.rd, h.2.1, h.2.2.1⟩
theorem Box.new (h : RtR w w.heap.size r A c) : Box (w.alloc (.cells #[.int .i64 r.kind, .int .i64 r.cost, .slice A r.path.length c] 48)) w.heap.size r A c :=
  ⟨heap_alloc_new _ _, (h.alloc (Nat.le_refl _) _).more (by simp)⟩
theorem Box.lt (h : Box w b r A c) : b < w.heap.size := lt_heap h.box
theorem Box.call (h : Box w b r A c) (hb : Below w.heap.size w w') : Box w' b r A c := ⟨(hb.block _ h.lt).trans h.box, h.rt.call hb⟩
theorem Box.alloc (h : Box w b r A c) (o : Obj) : Box (w.alloc o) b r A c := h.call ((Below.refl _ _).alloc (Nat.le_refl _) o)
theorem Box.at_ (h : Box w b r A c) : w.cell? ⟨b, 0, none⟩ = some (.int .i64 r.kind) ∧ w.cell? ⟨b, 1, none⟩ = some (.int .i64 r.cost) ∧ w.cell? ⟨b, 2, none⟩ = some (.slice A r.path.length c) :=
  ⟨cell_of_row w _ 0 _ _ _ h.box, cell_of_row w _ 1 _ _ _ h.box, cell_of_row w _ 2 _ _ _ h.box⟩
end
theorem betterB_iff (a b : Rt) : betterB a b = true ↔ ltR a b := by unfold betterB; rw [decide_eq_true_eq, cmpR_neg]
theorem betterB_self (a : Rt) : betterB a a = false := by
  cases h : betterB a a with
  | false => rfl
  | true => exact absurd ((betterB_iff a a).1 h) (ltR_irrefl a)
theorem betterB_asymm {a b : Rt} (h : betterB a b = true) : betterB b a = false := by
  cases h' : betterB b a with
  | false => rfl
  | true => exact (ltR_asymm ((betterB_iff a b).1 h) ((betterB_iff b a).1 h')).elim
theorem betterB_trans {a b c : Rt} (h : betterB a b = true) (h' : betterB b c = true) : betterB a c = true :=
  (betterB_iff a c).2 (ltR_trans ((betterB_iff a b).1 h) ((betterB_iff b c).1 h'))
theorem RtOk.kinds {r : Rt} (h : RtOk r) : 0 ≤ r.kind ∧ r.kind ≤ 2 := by rcases h.kind with e | e | e <;> rw [e] <;> decide
theorem betterB_total {a b : Rt} (ha : RtOk a) (hb : RtOk b) (h : a ≠ b) : betterB a b = true ∨ betterB b a = true := by
  rcases ltR_total ha.kinds hb.kinds h with h | h
  · exact .inl ((betterB_iff a b).2 h)
  · exact .inr ((betterB_iff b a).2 h)
theorem RtOk.short {r : Rt} (h : RtOk r) : r.path.length ≤ 12 := by
  rcases h.kind with e | e | e
  · rw [h.k0 e]; simp [rtNone]
  · rw [(h.k1 e).2.2]; simp
  · exact (h.k2 e).2.1
end

section
/-- Two boxes of routes, and what was there. -/
structure TwoW (w wr : World) (a b : Rt) (A A' : Option Addr) (c c' : Nat) : Prop where
  below : Below w.heap.size w wr
  size : w.heap.size + 2 ≤ wr.heap.size
  a : wr.heap[w.heap.size]? = some (.cells #[.int .i64 a.kind, .int .i64 a.cost, .slice A a.path.length c] 48 (0, 0))
  b : wr.heap[w.heap.size + 1]? = some (.cells #[.int .i64 b.kind, .int .i64 b.cost, .slice A' b.path.length c'] 48 (0, 0))
section
variable {w wr w' : World} {a b : Rt} {A A' : Option Addr} {c c' : Nat}
theorem TwoW.begin : TwoW w ((w.alloc (.cells #[.int .i64 a.kind, .int .i64 a.cost, .slice A a.path.length c] 48)).alloc (.cells #[.int .i64 b.kind, .int .i64 b.cost, .slice A' b.path.length c'] 48)) a b A A' c c' where
  below := ((Below.refl _ _).alloc (Nat.le_refl _) _).alloc (by simp) _
  size := by simp
  a := (Below.heap_alloc _ _ _ (by simp)).trans (heap_alloc_new _ _)
  b := by have := heap_alloc_new (w.alloc (.cells #[.int .i64 a.kind, .int .i64 a.cost, .slice A a.path.length c] 48)) (.cells #[.int .i64 b.kind, .int .i64 b.cost, .slice A' b.path.length c'] 48); simpa using this
theorem TwoW.call (h : TwoW w wr a b A A' c c') (hb : Below wr.heap.size wr w') : TwoW w w' a b A A' c c' :=
  ⟨h.below.trans (hb.mono (by have := h.size; omega)), Nat.le_trans h.size hb.size, (hb.block _ (by have := h.size; omega)).trans h.a, (hb.block _ (by have := h.size; omega)).trans h.b⟩
theorem TwoW.at2 (h : TwoW w wr a b A A' c c') : wr.cell? ⟨w.heap.size, 2, none⟩ = some (.slice A a.path.length c) ∧ wr.cell? ⟨w.heap.size + 1, 2, none⟩ = some (.slice A' b.path.length c') :=
  ⟨cell_of_row wr _ 2 _ _ _ h.a, cell_of_row wr _ 2 _ _ _ h.b⟩
end
set_option maxRecDepth 100000 in
set_option maxHeartbeats 1000000 in
theorem refSame_any (a b : Rt) (A A' : Option Addr) (c c' : Nat) (w : World) (h : RtR w w.heap.size a A c) (h' : RtR w w.heap.size b A' c') :
    Calls Tryz.prog 25 #[rtV a A c, rtV b A' c'] w fun e w' => e = .returned (.bool (decide (a = b))) ∧ Below w.heap.size w w' := by
  have hl : a.path.length ≤ maxLen := Nat.le_trans h.2.1 h.2.2
  unfold maxLen at hl
  have HT := Lib.hid (TwoW.begin (w := w) (a := a) (b := b) (A := A) (A' := A') (c := c) (c' := c'))
  have HA := Lib.hid h.1
  have HA' := Lib.hid h'.1
  have HE := Lib.hid (show decide (a = b) = (decide (a.kind = b.kind) && (decide (a.cost = b.cost) && decide (a.path = b.path))) from by
    rw [Bool.eq_iff_iff]
    cases a; cases b
    simp)
  clear h h'
  unfold rtV
  by_cases hk : a.kind = b.kind
  rotate_left
  · have bk : (a.kind != b.kind) = true := by simp [hk]
    have HN := Lib.hid (show decide (a = b) = false from by rw [HE.out]; simp [hk])
    clear hk
    go_enter Tryz.func25, Tryz.ntmps25
    go_wp2
    go_ret
    exact ⟨ret_bool (by rw [HN.out]), HT.out.below⟩
  have bk : (a.kind != b.kind) = false := by simp [hk]
  by_cases hc : a.cost = b.cost
  rotate_left
  · have bc : (a.cost != b.cost) = true := by simp [hc]
    have HN := Lib.hid (show decide (a = b) = false from by rw [HE.out]; simp [hc])
    clear hk hc
    go_enter Tryz.func25, Tryz.ntmps25
    go_wp2
    go_ret
    exact ⟨ret_bool (by rw [HN.out]), HT.out.below⟩
  have bc : (a.cost != b.cost) = false := by simp [hc]
  by_cases hn : a.path.length = b.path.length
  rotate_left
  · have bn : ((a.path.length : Int) != (b.path.length : Int)) = true := by simp; omega
    have HN := Lib.hid (show decide (a = b) = false from by
      rw [HE.out]
      have : a.path ≠ b.path := fun e => hn (by rw [e])
      simp [this])
    clear hk hc hn
    go_enter Tryz.func25, Tryz.ntmps25
    go_wp2
    go_ret
    exact ⟨ret_bool (by rw [HN.out]), HT.out.below⟩
  have bn : ((a.path.length : Int) != (b.path.length : Int)) = false := by simp; omega
  have HP := Lib.hid (show decide (a = b) = decide (a.path = b.path) from by rw [HE.out]; simp [hk, hc])
  have HL := Lib.hid hn
  clear hk hc hn
  go_enter Tryz.func25, Tryz.ntmps25
  go_wp2_with fail
  go_loopw [5] (fun i wr => ∃ k : Nat, k ≤ a.path.length ∧ i = .int .i64 k ∧ a.path.take k = b.path.take k ∧ TwoW w wr a b A A' c c') (fun i _ => a.path.length - (intOf i).toNat)
  case atStart => exact ⟨0, Nat.zero_le _, rfl, by simp, HT.out⟩
  case round =>
    obtain ⟨k, hk, rfl, heq, hT⟩ := hrel
    have HQ := Lib.hid heq
    have HW := Lib.hid hT
    obtain ⟨p0, p1⟩ := hT.at2
    have hsz := hT.size
    clear heq
    by_cases hlt : k < a.path.length
    · have hlt' : k < b.path.length := by have := HL.out; omega
      obtain ⟨x, hx⟩ : ∃ x, a.path[k]? = some x := ⟨_, List.getElem?_eq_getElem hlt⟩
      obtain ⟨y, hy⟩ : ∃ y, b.path[k]? = some y := ⟨_, List.getElem?_eq_getElem hlt'⟩
      obtain ⟨b1, o1, e1, hb1, hc1⟩ := (HA.out.below hT.below (Nat.le_refl _)).one (i := k) (x := .int .i64 x) (by simp [ints, hx])
      obtain ⟨b2, o2, e2, hb2, hc2⟩ := (HA'.out.below hT.below (Nat.le_refl _)).one (i := k) (x := .int .i64 y) (by simp [ints, hy])
      rw [e1] at p0
      rw [e2] at p1
      have hz0 : (0 : Int) ≤ (k : Int) := by omega
      have hz1 : (k : Int) < (a.path.length : Int) := by omega
      have hz2 : (k : Int) < (b.path.length : Int) := by omega
      have HX := Lib.hid hx
      have HY := Lib.hid hy
      clear hx hy e1 e2 hT
      by_cases hxy : x = y
      · have HF := Lib.hid (show a.path.take (k + 1) = b.path.take (k + 1) from by rw [List.take_add_one, List.take_add_one, HX.out, HY.out, HQ.out, hxy])
        have bx : (x != y) = false := by simp [hxy]
        clear hxy
        go_wp2_with fail
        go_quiet (fail)
        go_wp2
        go_roundw
        case rel => exact ⟨k + 1, by omega, by go_num, HF.out, HW.out.call ((Below.refl _ _).trans ⟨rfl, rfl, rfl, Nat.le_refl _, fun _ _ => rfl⟩)⟩
        case measure => simp [intOf]; omega
      · have bx : (x != y) = true := by simp [hxy]
        have HF := Lib.hid (show decide (a = b) = false from by
          rw [HP.out]
          have : a.path ≠ b.path := by
            intro e
            have := HX.out
            rw [e, HY.out] at this
            injection this with this
            exact hxy this.symm
          simp [this])
        clear hxy
        go_wp2_with fail
        go_quiet (fail)
        go_wp2
        go_ret
        exact ⟨ret_bool (by rw [HF.out]), HW.out.below.trans ⟨rfl, rfl, rfl, Nat.le_refl _, fun _ _ => rfl⟩⟩
    · have HF := Lib.hid (show decide (a = b) = true from by
        rw [HP.out]
        have h1 := HQ.out
        rw [List.take_of_length_le (by omega), List.take_of_length_le (by have := HL.out; omega)] at h1
        simp [h1])
      clear hT
      go_wp2
      go_ret
      exact ⟨ret_bool (by rw [HF.out]), HW.out.below⟩
end
section
theorem rt_ok {r : Rt} (h : rtRightB r = true) : RtOk r := by
  unfold rtRightB at h
  obtain ⟨k, c, l⟩ := r
  simp only at h
  by_cases h0 : k = 0
  · subst h0
    simp at h
    obtain ⟨rfl, h⟩ := h
    have := List.eq_nil_of_length_eq_zero (by simpa using h)
    subst this
    exact ⟨.inl rfl, fun _ => rfl, (fun h => by cases h), fun h => by cases h⟩
  · by_cases h1 : k = 1
    · subst h1
      simp at h
      obtain ⟨⟨h, h'⟩, h2⟩ := h
      have := List.eq_nil_of_length_eq_zero (by simpa using h2)
      subst this
      exact ⟨.inr (.inl rfl), (fun h => by simp at h), fun _ => ⟨h, h', rfl⟩, fun h => by simp at h⟩
    · by_cases h2 : k = 2
      · subst h2
        simp [listB] at h
        obtain ⟨rfl, h1, h2, h3⟩ := h
        refine ⟨.inr (.inr rfl), (fun h => by simp at h), (fun h => by simp at h), fun _ => ⟨rfl, h1, h3, fun x hx => ?_⟩⟩
        have := h2 x hx
        simp [badNum] at this
        omega
      · simp [h0, h1, h2] at h
theorem rt_ok_iff {r : Rt} : rtRightB r = true ↔ RtOk r := ⟨rt_ok, RtOk.right⟩
end
end Go.Proofs.YtakolnmoieiicaaGreat

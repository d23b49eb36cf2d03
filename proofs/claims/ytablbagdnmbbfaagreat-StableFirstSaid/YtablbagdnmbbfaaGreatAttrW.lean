/- The walks of package attr: which of two routes is better. -/
import Derived.Test.YtablbagdnmbbfaaGreatRt
import Derived.StillTailTactics
namespace Go.Proofs.YtablbagdnmbbfaaGreat
set_option linter.unusedSimpArgs false
set_option linter.unusedVariables false
open Go.RowKit

theorem isnan_any (x : Int) (w : World) : Calls Tryz.prog 107 #[.int .i64 x] w fun e w' => e = .returned (.bool false) ∧ w = w' := by
  go_enter Tryz.func107, Tryz.ntmps107
  go_wp2
  go_ret
  exact ⟨rfl, rfl⟩
theorem cmp_any (x y : Int) (w : World) : Calls Tryz.prog 80 #[.int .i64 x, .int .i64 y] w fun e w' => e = .returned (.int .i64 (cmpI x y)) ∧ w = w' := by
  by_cases h1 : x < y
  · have HN := Lib.hid (show cmpI x y = -1 from by simp [cmpI, h1])
    go_enter Tryz.func80, Tryz.ntmps80
    go_wp2_with (go_at_call 107; refine (isnan_any _ _).mono ?_; rintro e w' ⟨rfl, rfl⟩)
    go_ret
    exact ⟨ret_int (by rw [HN.out]), rfl⟩
  · by_cases h2 : y < x
    · have HN := Lib.hid (show cmpI x y = 1 from by simp [cmpI, h1, h2])
      go_enter Tryz.func80, Tryz.ntmps80
      go_wp2_with (go_at_call 107; refine (isnan_any _ _).mono ?_; rintro e w' ⟨rfl, rfl⟩)
      go_ret
      exact ⟨ret_int (by rw [HN.out]), rfl⟩
    · have HN := Lib.hid (show cmpI x y = 0 from by simp [cmpI, h1, h2])
      go_enter Tryz.func80, Tryz.ntmps80
      go_wp2_with (go_at_call 107; refine (isnan_any _ _).mono ?_; rintro e w' ⟨rfl, rfl⟩)
      go_ret
      exact ⟨ret_int (by rw [HN.out]), rfl⟩
theorem rank_any (k : Int) (w : World) : Calls Tryz.prog 81 #[.int .i64 k] w fun e w' => e = .returned (.int .i64 (rankI k)) ∧ w = w' := by
  by_cases h1 : k = 1
  · have HN := Lib.hid (show rankI k = 2 from by simp [rankI, h1])
    subst h1
    go_enter Tryz.func81, Tryz.ntmps81
    go_wp2
    go_ret
    exact ⟨ret_int (by rw [HN.out]), rfl⟩
  · have b1 : (k == 1) = false := by simp [h1]
    by_cases h2 : k = 2
    · have HN := Lib.hid (show rankI k = 1 from by simp [rankI, h2])
      subst h2
      clear h1
      go_enter Tryz.func81, Tryz.ntmps81
      go_wp2
      go_ret
      exact ⟨ret_int (by rw [HN.out]), rfl⟩
    · have b2 : (k == 2) = false := by simp [h2]
      have HN := Lib.hid (show rankI k = 0 from by simp [rankI, h1, h2])
      clear h1 h2
      go_enter Tryz.func81, Tryz.ntmps81
      go_wp2
      go_ret
      exact ⟨ret_int (by rw [HN.out]), rfl⟩

set_option maxHeartbeats 400000 in
theorem cmpS_any (l m : List Int) (A A' : Option Addr) (c c' : Nat) (w : World) (B B' : Nat) (h : Rd w B 1 A l.length (ints l)) (h' : Rd w B' 1 A' m.length (ints m)) (hl : l.length ≤ maxLen) (hm : m.length ≤ maxLen) :
    Calls Tryz.prog 82 #[.slice A l.length c, .slice A' m.length c'] w fun e w' => e = .returned (.int .i64 (lexI l m)) ∧ w = w' := by
  unfold maxLen at hl hm
  go_enter Tryz.func82, Tryz.ntmps82
  go_wp2
  go_loop [11] (fun i => ∃ k : Nat, k ≤ l.length ∧ k ≤ m.length ∧ i = .int .i64 k ∧ lexI l m = lexI (l.drop k) (m.drop k)) (fun i => l.length - (intOf i).toNat)
  case atStart => exact ⟨0, Nat.zero_le _, Nat.zero_le _, rfl, by simp⟩
  case round =>
    obtain ⟨k, hk, hk', rfl, hlex⟩ := hrel
    have HL := Lib.hid hlex
    clear hlex
    by_cases hlt : k < l.length
    · obtain ⟨x, hx⟩ : ∃ x, l[k]? = some x := ⟨_, List.getElem?_eq_getElem hlt⟩
      obtain ⟨b, o, rfl, hb, hc⟩ := h.one (i := k) (x := .int .i64 x) (by simp [ints, hx])
      have hdl : l.drop k = x :: l.drop (k + 1) := by
        rw [List.drop_eq_getElem_cons hlt]
        congr 1
        rw [List.getElem?_eq_getElem hlt] at hx
        injection hx
      have HD := Lib.hid hdl
      clear hdl hx
      by_cases hlt' : k < m.length
      · obtain ⟨y, hy⟩ : ∃ y, m[k]? = some y := ⟨_, List.getElem?_eq_getElem hlt'⟩
        obtain ⟨b', o', rfl, hb', hc'⟩ := h'.one (i := k) (x := .int .i64 y) (by simp [ints, hy])
        have hdm : m.drop k = y :: m.drop (k + 1) := by
          rw [List.drop_eq_getElem_cons hlt']
          congr 1
          rw [List.getElem?_eq_getElem hlt'] at hy
          injection hy
        have HM := Lib.hid hdm
        clear hdm hy
        by_cases hcmp : cmpI x y = 0
        · have HC := Lib.hid hcmp
          have HF := Lib.hid (show lexI l m = lexI (l.drop (k + 1)) (m.drop (k + 1)) from by rw [HL.out, HD.out, HM.out, lexI, if_neg (by simpa using hcmp)])
          clear hcmp
          go_wp2_with (go_at_call 80; refine (cmp_any _ _ _).mono ?_; rintro e w' ⟨rfl, rfl⟩; rw [HC.out])
          go_round
          case rel => exact ⟨k + 1, by omega, by omega, by go_num, HF.out⟩
          case measure => simp [intOf]; omega
        · have HF := Lib.hid (show lexI l m = cmpI x y from by rw [HL.out, HD.out, HM.out, lexI, if_pos hcmp])
          have hne : (cmpI x y != 0) = true := by simpa using hcmp
          clear hcmp
          go_wp2_with (go_at_call 80; refine (cmp_any _ _ _).mono ?_; rintro e w' ⟨rfl, rfl⟩)
          go_ret
          exact ⟨ret_int (by rw [HF.out]), rfl⟩
      · have HF := Lib.hid (show lexI l m = 1 from by rw [HL.out, HD.out, List.drop_eq_nil_of_le (by omega : m.length ≤ k), lexI])
        have hkm : (m.length : Int) ≤ (k : Int) := by omega
        go_wp2
        go_ret
        exact ⟨ret_int (by rw [HF.out]), rfl⟩
    · by_cases hlm : l.length < m.length
      · have HF := Lib.hid (show lexI l m = -1 from by
          rw [HL.out, List.drop_eq_nil_of_le (by omega : l.length ≤ k), List.drop_eq_getElem_cons (by omega : k < m.length), lexI])
        have hlm' : (l.length : Int) < (m.length : Int) := by omega
        go_wp2
        go_ret
        exact ⟨ret_int (by rw [HF.out]), rfl⟩
      · have HF := Lib.hid (show lexI l m = 0 from by
          rw [HL.out, List.drop_eq_nil_of_le (by omega : l.length ≤ k), List.drop_eq_nil_of_le (by omega : m.length ≤ k), lexI])
        have hlm' : (m.length : Int) ≤ (l.length : Int) := by omega
        go_wp2
        go_ret
        exact ⟨ret_int (by rw [HF.out]), rfl⟩
theorem or_any (l : List Int) (A : Option Addr) (c : Nat) (w : World) (B : Nat) (h : Rd w B 1 A l.length (ints l)) (hl : l.length ≤ 1000) :
    Calls Tryz.prog 79 #[.slice A l.length c] w fun e w' => e = .returned (.int .i64 (orI l)) ∧ w = w' := by
  go_enter Tryz.func79, Tryz.ntmps79
  go_wp2
  go_loop [8] (fun i => ∃ k : Nat, k ≤ l.length ∧ i = .int .i64 k ∧ orI l = orI (l.drop k)) (fun i => l.length - (intOf i).toNat)
  case atStart => exact ⟨0, Nat.zero_le _, rfl, by simp⟩
  case round =>
    obtain ⟨k, hk, rfl, ho⟩ := hrel
    have HL := Lib.hid ho
    clear ho
    by_cases hlt : k < l.length
    · obtain ⟨x, hx⟩ : ∃ x, l[k]? = some x := ⟨_, List.getElem?_eq_getElem hlt⟩
      obtain ⟨b, o, rfl, hb, hc⟩ := h.one (i := k) (x := .int .i64 x) (by simp [ints, hx])
      have hdl : l.drop k = x :: l.drop (k + 1) := by
        rw [List.drop_eq_getElem_cons hlt]
        congr 1
        rw [List.getElem?_eq_getElem hlt] at hx
        injection hx
      have HD := Lib.hid hdl
      clear hdl hx
      by_cases hx0 : x = 0
      · have HF := Lib.hid (show orI l = orI (l.drop (k + 1)) from by rw [HL.out, HD.out, orI_cons, if_neg (by simpa using hx0)])
        subst hx0
        go_wp2
        go_round
        case rel => exact ⟨k + 1, by omega, by go_num, HF.out⟩
        case measure => simp [intOf]; omega
      · have HF := Lib.hid (show orI l = x from by rw [HL.out, HD.out, orI_cons, if_pos hx0])
        have hne : (x != 0) = true := by simpa using hx0
        clear hx0
        go_wp2
        go_ret
        exact ⟨ret_int (by rw [HF.out]), rfl⟩
    · have HF := Lib.hid (show orI l = 0 from by rw [HL.out, List.drop_eq_nil_of_le (by omega)]; rfl)
      go_wp2
      go_ret
      exact ⟨ret_int (by rw [HF.out]), rfl⟩

theorem still_of {P : Program} {f : FuncId} {args : Array Value} {w : World} {v : Value} (h : Calls P f args w fun e w' => e = .returned v ∧ w = w') : Calls P f args w (fun e w'' => e = .returned v ∧ w'' = w) :=
  h.mono fun _ _ h => ⟨h.1, h.2.symm⟩
set_option maxRecDepth 100000 in
set_option maxHeartbeats 1000000 in
theorem compare_any (a b : Rt) (A A' : Option Addr) (c c' : Nat) (w : World) (h : RtR w w.heap.size a A c) (h' : RtR w w.heap.size b A' c') :
    Calls Tryz.prog 45 #[rtV a A c, rtV b A' c'] w fun e w' => e = .returned (.int .i64 (cmpR a b)) ∧ Below w.heap.size w w' := by
  have hl : a.path.length ≤ maxLen := Nat.le_trans h.2.1 h.2.2
  have hl' : b.path.length ≤ maxLen := Nat.le_trans h'.2.1 h'.2.2
  have HA := Lib.hid (fun o o' => (h.1.alloc (Nat.le_refl _) o).alloc (by simp) o')
  have HB := Lib.hid (fun o o' => (h'.1.alloc (Nat.le_refl _) o).alloc (by simp) o')
  clear h h'
  unfold rtV
  go_enter Tryz.func45, Tryz.ntmps45
  go_wp2_with fail
  refine wp_region_still_tail 24 (by kernel_rfl) (by kernel_rfl) ?_
  change wpStill _ _ (World.drew _) _ _ _
  simp only [List.take_succ_cons, List.take_zero, List.drop_succ_cons, List.drop_zero]
  repeat still_step
  still_call (still_of (rank_any _ _))
  repeat still_step
  still_call (still_of (rank_any _ _))
  repeat still_step
  still_call (still_of (cmp_any _ _ _))
  repeat still_step
  still_call (still_of (cmp_any _ _ _))
  repeat still_step
  still_call (still_of (cmp_any _ _ _))
  repeat still_step
  still_call (still_of (cmpS_any a.path b.path A A' c c' _ _ _ (HA.out _ _) (HB.out _ _) hl hl'))
  repeat still_step
  refine wpStill_nil ?_
  change wpList _ _ _ _ _ (World.drew _)
  have hbel : Below w.heap.size w ((w.alloc (.cells #[.int .i64 a.kind, .int .i64 a.cost, .slice A a.path.length c] 53)).alloc (.cells #[.int .i64 b.kind, .int .i64 b.cost, .slice A' b.path.length c'] 53)).drew := (((Below.refl _ _).alloc (Nat.le_refl _) _).alloc (by simp) _).drew
  generalize ((w.alloc (.cells #[.int .i64 a.kind, .int .i64 a.cost, .slice A a.path.length c] 53)).alloc (.cells #[.int .i64 b.kind, .int .i64 b.cost, .slice A' b.path.length c'] 53)).drew = w2 at hbel
  have HL := Lib.hid hbel
  have hsz := hbel.size
  clear hbel
  go_wp2_with (go_at_call 79; refine (or_any [cmpI (rankI b.kind) (rankI a.kind), cmpI a.cost b.cost, cmpI a.path.length b.path.length, lexI a.path b.path] _ _ _ _ (Rd.new (by simp) rfl) (by simp)).mono ?_; rintro e w' ⟨rfl, rfl⟩)
  go_ret
  exact ⟨rfl, HL.out.alloc hsz _⟩
end Go.Proofs.YtablbagdnmbbfaaGreat

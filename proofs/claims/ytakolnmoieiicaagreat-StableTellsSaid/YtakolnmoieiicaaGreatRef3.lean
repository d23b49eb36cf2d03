/- The document's own answer: what may be a name (backstayref02). The document's own answer: which networks may be (backstayref03). The document's own answer: which destinations may be (backstayref03). The document's own answer: which checks may be (backstayref03). The document's own answer: which links may be (backstayref03). -/
import Derived.Test.YtakolnmoieiicaaGreatLex
import Derived.Test.YtakolnmoieiicaaGreatSort
import Derived.Test.YtakolnmoieiicaaGreatRegs
import Derived.Test.YtakolnmoieiicaaGreatRight
namespace Go.Proofs.YtakolnmoieiicaaGreat
set_option linter.unusedSimpArgs false
set_option linter.unusedVariables false
open Go.RowKit

section
theorem rletter_any (c : Int) (w : World) : Calls Tryz.prog 90 #[.int .u8 c] w fun e w' => e = .returned (.bool (letterB c)) ∧ w = w' := by
  rcases (show c < 65 ∨ (65 ≤ c ∧ c ≤ 90) ∨ (91 ≤ c ∧ c < 97) ∨ (97 ≤ c ∧ c ≤ 122) ∨ 122 < c from by omega) with h | ⟨h, h'⟩ | ⟨h, h'⟩ | ⟨h, h'⟩ | h
  all_goals
    go_enter Tryz.func90, Tryz.ntmps90
    go_wp2
    go_ret
    exact ⟨ret_bool (by unfold letterB; first | rfl | (rw [Bool.eq_iff_iff]; simp only [Bool.or_eq_true, Bool.and_eq_true, decide_eq_true_eq, beq_iff_eq, Bool.false_eq_true, false_iff, iff_false, true_iff, iff_true, or_false, false_or, and_true, true_and]; omega)), rfl⟩
theorem rdigit_any (c : Int) (w : World) : Calls Tryz.prog 115 #[.int .u8 c] w fun e w' => e = .returned (.bool (decide (48 ≤ c ∧ c ≤ 57))) ∧ w = w' := by
  rcases (show c < 48 ∨ (48 ≤ c ∧ c ≤ 57) ∨ 57 < c from by omega) with h | ⟨h, h'⟩ | h
  all_goals
    go_enter Tryz.func115, Tryz.ntmps115
    go_wp2
    go_ret
    exact ⟨ret_bool (by first | rfl | (rw [Bool.eq_iff_iff]; simp only [Bool.or_eq_true, Bool.and_eq_true, decide_eq_true_eq, beq_iff_eq, Bool.false_eq_true, false_iff, iff_false, true_iff, iff_true, or_false, false_or, and_true, true_and]; omega)), rfl⟩
theorem rpart_any (c : Int) (w : World) : Calls Tryz.prog 92 #[.int .u8 c] w fun e w' => e = .returned (.bool (partB c)) ∧ w = w' := by
  by_cases hl : letterB c = true
  · have HP := Lib.hid (show partB c = true from by simp [partB, hl])
    go_enter Tryz.func92, Tryz.ntmps92
    go_wp2_with (go_at_call 90; refine (rletter_any _ _).mono ?_; rintro e w' ⟨rfl, rfl⟩)
    go_ret
    exact ⟨ret_bool (by rw [HP.out]), rfl⟩
  · have hl : letterB c = false := by simpa using hl
    rcases (show c < 45 ∨ c = 45 ∨ (45 < c ∧ c < 48) ∨ (48 ≤ c ∧ c ≤ 57) ∨ (57 < c ∧ c < 95) ∨ c = 95 ∨ 95 < c from by omega) with h | h | ⟨h, h'⟩ | ⟨h, h'⟩ | ⟨h, h'⟩ | h | h
    all_goals
      have HP := Lib.hid (show partB c = decide ((48 ≤ c ∧ c ≤ 57) ∨ c = 45 ∨ c = 95) from by simp [partB, hl])
      have h1 : (c == 45) = decide (c = 45) := by rfl
      have h2 : (c == 95) = decide (c = 95) := by rfl
      have hd : decide (48 ≤ c ∧ c ≤ 57) = decide (48 ≤ c ∧ c ≤ 57) := rfl
      try subst h
      go_enter Tryz.func92, Tryz.ntmps92
      go_wp2_with (first | (go_at_call 90; refine (rletter_any _ _).mono ?_; rintro e w' ⟨rfl, rfl⟩) | (go_at_call 115; refine (rdigit_any _ _).mono ?_; rintro e w' ⟨rfl, rfl⟩))
      all_goals go_ret
      all_goals exact ⟨ret_bool (by rw [HP.out]; first | rfl | (rw [Bool.eq_iff_iff]; simp only [Bool.or_eq_true, Bool.and_eq_true, decide_eq_true_eq, beq_iff_eq, Bool.false_eq_true, false_iff, iff_false, true_iff, iff_true, or_false, false_or, and_true, true_and]; omega)), rfl⟩
set_option maxHeartbeats 1000000 in
theorem rkeyword_any (s : ByteArray) (w : World) : Calls Tryz.prog 91 #[.string s] w fun e w' => e = .returned (.bool (kwB s)) ∧ Below w.heap.size w w' := by
  have HR : Hid (∀ wy, wy = w.alloc (.cells (strs kws).toArray 9) → Rd wy wy.heap.size 1 (some ⟨w.heap.size, 0, none⟩) 13 (strs kws)) := Lib.hid (fun wy e => by subst e; exact Rd.new (w := w) (cs := (strs kws).toArray) (e := 9) (m := 13) rfl rfl)
  have hkl : kws.length = 13 := rfl
  go_enter Tryz.func91, Tryz.ntmps91
  go_wp2_with fail
  go_loopw [4] (fun i wr => ∃ k : Nat, k ≤ 13 ∧ i = .int .i64 k ∧ (kws.take k).any (eqS s) = false ∧ wr = w.alloc (.cells (strs kws).toArray 9)) (fun i _ => 13 - (intOf i).toNat)
  case atStart => exact ⟨0, Nat.zero_le _, rfl, by simp, rfl⟩
  case round =>
    obtain ⟨k, hk, rfl, hall, hwr⟩ := hrel
    have HA := Lib.hid hall
    have HW := Lib.hid (show Below w.heap.size w wr from by rw [hwr]; exact (Below.refl _ _).alloc (Nat.le_refl _) _)
    have HWR := Lib.hid hwr
    have hrd := HR.out wr hwr
    clear hall hwr
    by_cases hlt : k < 13
    · obtain ⟨x, hx⟩ : ∃ x, kws[k]? = some x := ⟨_, List.getElem?_eq_getElem (by omega)⟩
      obtain ⟨b, o, e, hb, hc⟩ := hrd.one (i := k) (x := .string x) (by simp [strs, hx])
      injection e with e
      injection e with e1 e2
      subst e1 e2
      have hts : kws.take (k + 1) = kws.take k ++ [x] := by rw [List.take_add_one, hx]; rfl
      have HT := Lib.hid hts
      have HX := Lib.hid hx
      rw [Nat.zero_add] at hc
      have hk0 : (0 : Int) ≤ (k : Int) := by omega
      have hkI : (k : Int) < 13 := by omega
      clear hts hx hkl hrd
      by_cases he : (x.toList == s.toList) = true
      · have HF := Lib.hid (show kwB s = true from by
          unfold kwB
          rw [List.any_eq_true]
          exact ⟨x, List.mem_of_getElem? HX.out, by unfold eqS; rw [beq_iff_eq] at he ⊢; exact he.symm⟩)
        go_wp2
        go_ret
        exact ⟨ret_bool HF.out.symm, HW.out⟩
      · have he : (x.toList == s.toList) = false := by simpa using he
        have he' := Lib.hid (show eqS s x = false from by
          unfold eqS
          rw [beq_eq_false_iff_ne] at he ⊢
          exact fun e => he e.symm)
        go_wp2
        go_roundw
        case rel => exact ⟨k + 1, by omega, by go_num, by rw [HT.out, List.any_append, HA.out]; simp [he'.out], HWR.out⟩
        case measure => simp [intOf]; omega
    · have HF := Lib.hid (show kwB s = false from by
        have := HA.out
        rwa [List.take_of_length_le (by omega)] at this)
      have hge : ¬ (k : Int) < 13 := by omega
      clear hrd hkl
      go_wp2
      go_ret
      exact ⟨ret_bool HF.out.symm, HW.out⟩
set_option maxHeartbeats 1000000 in
theorem rname_any (s : ByteArray) (w : World) : Calls Tryz.prog 68 #[.string s] w fun e w' => e = .returned (.bool (nameB s)) ∧ Below w.heap.size w w' := by
  by_cases h0 : s.size = 0
  · have hb : s.toList.isEmpty = true := by
      rw [ByteArray.toList_eq]
      have : s.data.toList.length = 0 := by simpa using h0
      rw [List.eq_nil_of_length_eq_zero this]; rfl
    have hb2 : s.toList = [] := by simpa using hb
    have HN := Lib.hid (show nameB s = false from by simp [nameB, h0])
    clear h0
    go_enter Tryz.func68, Tryz.ntmps68
    go_wp2
    go_ret
    exact ⟨ret_bool (by rw [HN.out]), Below.refl _ _⟩
  · have hpos : 0 < s.size := by omega
    have hb : s.toList.isEmpty = false := by
      rw [ByteArray.toList_eq]
      have : s.data.toList.length ≠ 0 := by simpa using h0
      cases hs : s.data.toList with
      | nil => rw [hs] at this; simp at this
      | cons a l => rfl
    have hb2 : ¬ s.toList = [] := by intro e; rw [e] at hb; cases hb
    clear h0
    by_cases h12 : s.size ≤ 12
    · have HN0 := Lib.hid (show nameB s = (letterB (s[0]'hpos).toNat && allPart s && !kwB s) from by unfold nameB; rw [head_at hpos]; simp [hpos, h12])
      by_cases hl : letterB (s[0]'hpos).toNat = true
      · by_cases hk : kwB s = true
        · have HN1 := Lib.hid (show nameB s = false from by rw [HN0.out, hk]; simp)
          have HK := Lib.hid hk
          clear hk
          go_enter Tryz.func68, Tryz.ntmps68
          go_wp2_with (go_at_call 90; refine (rletter_any _ _).mono ?_; rintro e w' ⟨rfl, rfl⟩)
          refine (rkeyword_any s _).mono ?_
          rintro e w1 ⟨rfl, hb1⟩
          rw [HK.out]
          have B1 := Lib.hid hb1
          clear hb1
          go_wp2
          go_ret
          exact ⟨ret_bool (by rw [HN1.out]), B1.out⟩
        · have hk : kwB s = false := by simpa using hk
          have HN1 := Lib.hid (show nameB s = allPart s from by rw [HN0.out, hl, hk]; simp)
          have HK := Lib.hid hk
          clear hk
          go_enter Tryz.func68, Tryz.ntmps68
          go_wp2_with (go_at_call 90; refine (rletter_any _ _).mono ?_; rintro e w' ⟨rfl, rfl⟩)
          refine (rkeyword_any s _).mono ?_
          rintro e w1 ⟨rfl, hb1⟩
          rw [HK.out]
          have B1 := Lib.hid hb1
          clear hb1
          go_wp2_with fail
          go_loopw [3] (fun i wr => ∃ k : Nat, k ≤ s.size ∧ i = .int .i64 k ∧ (∀ c ∈ s.data.toList.take k, partB c.toNat = true) ∧ wr = w1) (fun i _ => s.size - (intOf i).toNat)
          case atStart => exact ⟨0, Nat.zero_le _, rfl, by simp, rfl⟩
          case round =>
            obtain ⟨k, hk, rfl, hall, rfl⟩ := hrel
            have HA := Lib.hid hall
            clear hall
            by_cases hlt : k < s.size
            · have hmem : s[k]'hlt ∈ s.data.toList := by rw [Array.mem_toList_iff]; exact Array.getElem_mem hlt
              have hts : s.data.toList.take (k + 1) = s.data.toList.take k ++ [s[k]'hlt] := by
                rw [List.take_succ_eq_append_getElem (by simpa using hlt)]; rfl
              have HT := Lib.hid hts
              have HM := Lib.hid hmem
              clear hts hmem
              by_cases hp : partB (s[k]'hlt).toNat = true
              · go_wp2_with (go_at_call 92; refine (rpart_any _ _).mono ?_; rintro e w' ⟨rfl, rfl⟩)
                go_roundw
                case rel =>
                  refine ⟨k + 1, by omega, by go_num, fun c hc => ?_, (by first | rfl | trivial)⟩
                  rw [HT.out] at hc
                  rcases List.mem_append.1 hc with hc | hc
                  · exact HA.out c hc
                  · simp at hc; subst hc; exact hp
                case measure => simp [intOf]; omega
              · have hp : partB (s[k]'hlt).toNat = false := by simpa using hp
                have HF := Lib.hid (show nameB s = false from by
                  rw [HN1.out]
                  unfold allPart
                  rw [List.all_eq_false]
                  exact ⟨_, HM.out, by simp [hp]⟩)
                go_wp2_with (go_at_call 92; refine (rpart_any _ _).mono ?_; rintro e w' ⟨rfl, rfl⟩)
                go_ret
                exact ⟨ret_bool HF.out.symm, B1.out⟩
            · have hk' : k = s.size := by omega
              have HF := Lib.hid (show nameB s = true from by
                rw [HN1.out]
                unfold allPart
                rw [List.all_eq_true]
                intro c hc
                exact HA.out c (by rw [List.take_of_length_le (by simp; omega)]; exact hc))
              clear hk'
              go_wp2
              go_ret
              exact ⟨ret_bool HF.out.symm, B1.out⟩
      · have hl : letterB (s[0]'hpos).toNat = false := by simpa using hl
        have HN1 := Lib.hid (show nameB s = false from by rw [HN0.out, hl]; rfl)
        go_enter Tryz.func68, Tryz.ntmps68
        go_wp2_with (go_at_call 90; refine (rletter_any _ _).mono ?_; rintro e w' ⟨rfl, rfl⟩)
        go_ret
        exact ⟨ret_bool (by rw [HN1.out]), Below.refl _ _⟩
    · have HN1 := Lib.hid (show nameB s = false from by simp [nameB, h12])
      have h12' : 12 < (s.size : Int) := by omega
      go_enter Tryz.func68, Tryz.ntmps68
      go_wp2
      go_ret
      exact ⟨ret_bool (by rw [HN1.out]), Below.refl _ _⟩
end

section
theorem eqS_iff (a b : ByteArray) : (a.toList == b.toList) = true ↔ a = b := by
  rw [beq_iff_eq, ByteArray.toList_eq, ByteArray.toList_eq]
  constructor
  · intro h
    obtain ⟨⟨x⟩⟩ := a
    obtain ⟨⟨y⟩⟩ := b
    simp at h
    subst h
    rfl
  · rintro rfl; rfl
theorem rplace_any (k m : Int) (w : World) : Calls Tryz.prog 69 #[.int .i64 k, .int .i64 m] w fun e w' => e = .returned (.bool (placeB k m)) ∧ w = w' := by
  go_enter Tryz.func69, Tryz.ntmps69
  go_wp2
  all_goals go_ret
  all_goals exact ⟨ret_bool (by unfold placeB; first | rfl | (rw [Bool.eq_iff_iff]; simp only [Bool.or_eq_true, Bool.and_eq_true, decide_eq_true_eq, beq_iff_eq, Bool.false_eq_true, false_iff, iff_false, true_iff, iff_true, or_false, false_or, and_true, true_and]; omega)), rfl⟩
/-- Names that may be, each once. -/
def namesB (l : List ByteArray) : Bool := !l.any badName && decide l.Nodup
attribute [local go_sem ↓] Go.wp_at_zero Go.wp_at_succ
set_option maxRecDepth 100000 in
set_option maxHeartbeats 4000000 in
theorem rnames_any (l : List ByteArray) (A : Option Addr) (c : Nat) (w : World) (h : Rd w w.heap.size 1 A l.length (strs l)) (hl : l.length ≤ 10000) :
    Calls Tryz.prog 40 #[.slice A l.length c] w fun e w' => e = .returned (.bool (namesB l)) ∧ Below w.heap.size w w' := by
  have H := Lib.hid h
  clear h
  go_enter Tryz.func40, Tryz.ntmps40
  go_wp2_with fail
  go_loopw [3] (fun si wx => ∃ i : Nat, i ≤ l.length ∧ si = .int .i64 i ∧ (l.take i).any badName = false ∧ (l.take i).Nodup ∧ Below w.heap.size w wx) (fun si _ => l.length - (intOf si).toNat)
  case atStart => exact ⟨0, Nat.zero_le _, rfl, by simp, by simp, Below.refl _ _⟩
  case round =>
    obtain ⟨i, hi, rfl, hbad, hnd, hB⟩ := hrel
    have HBAD := Lib.hid hbad
    have HND := Lib.hid hnd
    have BX := Lib.hid hB
    clear hbad hnd
    by_cases hlt : i < l.length
    · obtain ⟨x, hx⟩ : ∃ x, l[i]? = some x := ⟨_, List.getElem?_eq_getElem hlt⟩
      have HX := Lib.hid hx
      have hts : l.take (i + 1) = l.take i ++ [x] := by rw [List.take_add_one, hx]; rfl
      have HT := Lib.hid hts
      obtain ⟨b, o, rfl, hb, hc⟩ := H.out.one (i := i) (x := .string x) (by simp [strs, hx])
      have HCI : Hid (∀ wy, Below w.heap.size w wy → wy.cell? ⟨b, o + i, none⟩ = some (.string x)) := Lib.hid (fun wy hb' => (hb'.cell (p := ⟨b, o + i, none⟩) hb).trans hc)
      have hi0 : (0 : Int) ≤ (i : Int) := by omega
      have hc1 := HCI.out _ hB
      clear hx hts hc hB
      go_wp2_with fail
      refine (rname_any x _).mono ?_
      rintro e w1 ⟨rfl, hb1⟩
      have B1 := Lib.hid (since_trans BX.out hb1)
      clear hb1 hc1
      by_cases hn : nameB x = true
      · rw [hn]
        have HN := Lib.hid (show badName x = false from by unfold badName; rw [hn]; rfl)
        clear hn
        go_wp2_with fail
        go_loopw [4] (fun sk wx => ∃ k : Nat, k ≤ i ∧ sk = .int .i64 k ∧ (∀ y ∈ l.take k, y ≠ x) ∧ Below w.heap.size w wx) (fun sk _ => i - (intOf sk).toNat)
        case atStart => exact ⟨0, Nat.zero_le _, rfl, by simp, B1.out⟩
        case round =>
          obtain ⟨k, hk, rfl, hne, hB2⟩ := hrel
          have HNE := Lib.hid hne
          have B2 := Lib.hid hB2
          clear hne
          by_cases hki : k < i
          · obtain ⟨y, hy⟩ : ∃ y, l[k]? = some y := ⟨_, List.getElem?_eq_getElem (by omega)⟩
            obtain ⟨b', o', e', hb', hc'⟩ := H.out.one (i := k) (x := .string y) (by simp [strs, hy])
            injection e' with e'
            injection e' with e1 e2
            subst e1 e2
            have HY := Lib.hid hy
            have hty : l.take (k + 1) = l.take k ++ [y] := by rw [List.take_add_one, hy]; rfl
            have HTY := Lib.hid hty
            have HCK := Lib.hid (show ∀ wy, Below w.heap.size w wy → wy.cell? ⟨b, o + k, none⟩ = some (.string y) from fun wy hb2 => (hb2.cell (p := ⟨b, o + k, none⟩) hb').trans hc')
            have hk0 : (0 : Int) ≤ (k : Int) := by omega
            have hkl : (k : Int) < (l.length : Int) := by omega
            have hil : (i : Int) < (l.length : Int) := by omega
            have hkl' : k < l.length := by omega
            have hB3 := below_drew hB2
            have B3 := Lib.hid hB3
            clear hy hty hc' hb' hB2
            by_cases he : x = y
            · have hq : (x.toList == y.toList) = true := (eqS_iff x y).2 he
              have HF := Lib.hid (show namesB l = false from by
                unfold namesB
                have : ¬ l.Nodup := fun hnn => by
                  have h1 := (List.getElem?_inj (i := k) (j := i) hkl' hnn).1 (by rw [HX.out, HY.out, he])
                  omega
                simp [this])
              clear he
              go_upto_region 9 with fail
              refine wp_region_held_drew (S := (fun wy => wy.cell? ⟨b, o + i, none⟩ = some (.string x) ∧ wy.cell? ⟨b, o + k, none⟩ = some (.string y))) (by kernel_rfl) (⟨HCI.out _ hB3, HCK.out _ hB3⟩) (fun hHeld0 => ?_)
              refine take_list (i := 0) (v := ?_) rfl (by kernel_rfl) (by kernel_rfl) (by kernel_rfl) (fun _ _ _ h => h) (Or.inl ⟨by rfl, ?_⟩) (by assumption) ?_
              rotate_left
              · (intro w hSw; (try dsimp only at hSw); go_simp; try (with_reducible rfl))
              try simp only [Act.put, List.setIfInBounds_toArray, List.set_cons_zero, List.set_cons_succ]
              refine take_list (i := 1) (v := ?_) rfl (by kernel_rfl) (by kernel_rfl) (by kernel_rfl) (fun _ _ _ h => h) (Or.inl ⟨by rfl, ?_⟩) (by assumption) ?_
              rotate_left
              · (intro w hSw; (try dsimp only at hSw); go_simp; try (with_reducible rfl))
              try simp only [Act.put, List.setIfInBounds_toArray, List.set_cons_zero, List.set_cons_succ]
              refine take_list (i := 2) (v := ?_) rfl (by kernel_rfl) (by kernel_rfl) (by kernel_rfl) (fun _ _ _ h => h) (Or.inl ⟨by rfl, ?_⟩) (by assumption) ?_
              rotate_left
              · (intro w hSw; (try dsimp only at hSw); go_simp; try (with_reducible rfl))
              try simp only [Act.put, List.setIfInBounds_toArray, List.set_cons_zero, List.set_cons_succ]
              refine take_list (i := 3) (v := ?_) rfl (by kernel_rfl) (by kernel_rfl) (by kernel_rfl) (fun _ _ _ h => h) (Or.inl ⟨by rfl, ?_⟩) (by assumption) ?_
              rotate_left
              · (intro w hSw; (try dsimp only at hSw); go_simp; try (with_reducible rfl))
              try simp only [Act.put, List.setIfInBounds_toArray, List.set_cons_zero, List.set_cons_succ]
              refine take_list (i := 4) (v := ?_) rfl (by kernel_rfl) (by kernel_rfl) (by kernel_rfl) (fun _ _ _ h => h) (Or.inl ⟨by rfl, ?_⟩) (by assumption) ?_
              rotate_left
              · (intro w hSw; (try dsimp only at hSw); go_simp; try (with_reducible rfl))
              try simp only [Act.put, List.setIfInBounds_toArray, List.set_cons_zero, List.set_cons_succ]
              refine take_list (i := 5) (v := ?_) rfl (by kernel_rfl) (by kernel_rfl) (by kernel_rfl) (fun _ _ _ h => h) (Or.inl ⟨by rfl, ?_⟩) (by assumption) ?_
              rotate_left
              · (intro w hSw; (try dsimp only at hSw); go_simp; try (with_reducible rfl))
              try simp only [Act.put, List.setIfInBounds_toArray, List.set_cons_zero, List.set_cons_succ]
              refine take_list (i := 6) (v := ?_) rfl (by kernel_rfl) (by kernel_rfl) (by kernel_rfl) (fun _ _ _ h => h) (Or.inl ⟨by rfl, ?_⟩) (by assumption) ?_
              rotate_left
              · (intro w hSw; (try dsimp only at hSw); go_simp; try (with_reducible rfl))
              try simp only [Act.put, List.setIfInBounds_toArray, List.set_cons_zero, List.set_cons_succ]
              refine take_list (i := 7) (v := ?_) rfl (by kernel_rfl) (by kernel_rfl) (by kernel_rfl) (fun _ _ _ h => h) (Or.inl ⟨by rfl, ?_⟩) (by assumption) ?_
              rotate_left
              · (intro w hSw; (try dsimp only at hSw); go_simp; try (with_reducible rfl))
              try simp only [Act.put, List.setIfInBounds_toArray, List.set_cons_zero, List.set_cons_succ]
              refine take_list (i := 8) (v := ?_) rfl (by kernel_rfl) (by kernel_rfl) (by kernel_rfl) (fun _ _ _ h => h) (Or.inl ⟨by rfl, ?_⟩) (by assumption) ?_
              rotate_left
              · (intro w hSw; (try dsimp only at hSw); go_simp; try (with_reducible rfl))
              try simp only [Act.put, List.setIfInBounds_toArray, List.set_cons_zero, List.set_cons_succ]
              refine wpAnyH_done (by kernel_rfl) ?_ _
              clear hHeld0
              go_wp2
              go_ret
              exact ⟨ret_bool HF.out.symm, B3.out⟩
            · have hq : (x.toList == y.toList) = false := by
                cases hz : (x.toList == y.toList) with
                | false => rfl
                | true => exact absurd ((eqS_iff x y).1 hz) he
              have HE := Lib.hid he
              clear he
              go_upto_region 9 with fail
              refine wp_region_held_drew (S := (fun wy => wy.cell? ⟨b, o + i, none⟩ = some (.string x) ∧ wy.cell? ⟨b, o + k, none⟩ = some (.string y))) (by kernel_rfl) (⟨HCI.out _ hB3, HCK.out _ hB3⟩) (fun hHeld0 => ?_)
              refine take_list (i := 0) (v := ?_) rfl (by kernel_rfl) (by kernel_rfl) (by kernel_rfl) (fun _ _ _ h => h) (Or.inl ⟨by rfl, ?_⟩) (by assumption) ?_
              rotate_left
              · (intro w hSw; (try dsimp only at hSw); go_simp; try (with_reducible rfl))
              try simp only [Act.put, List.setIfInBounds_toArray, List.set_cons_zero, List.set_cons_succ]
              refine take_list (i := 1) (v := ?_) rfl (by kernel_rfl) (by kernel_rfl) (by kernel_rfl) (fun _ _ _ h => h) (Or.inl ⟨by rfl, ?_⟩) (by assumption) ?_
              rotate_left
              · (intro w hSw; (try dsimp only at hSw); go_simp; try (with_reducible rfl))
              try simp only [Act.put, List.setIfInBounds_toArray, List.set_cons_zero, List.set_cons_succ]
              refine take_list (i := 2) (v := ?_) rfl (by kernel_rfl) (by kernel_rfl) (by kernel_rfl) (fun _ _ _ h => h) (Or.inl ⟨by rfl, ?_⟩) (by assumption) ?_
              rotate_left
              · (intro w hSw; (try dsimp only at hSw); go_simp; try (with_reducible rfl))
              try simp only [Act.put, List.setIfInBounds_toArray, List.set_cons_zero, List.set_cons_succ]
              refine take_list (i := 3) (v := ?_) rfl (by kernel_rfl) (by kernel_rfl) (by kernel_rfl) (fun _ _ _ h => h) (Or.inl ⟨by rfl, ?_⟩) (by assumption) ?_
              rotate_left
              · (intro w hSw; (try dsimp only at hSw); go_simp; try (with_reducible rfl))
              try simp only [Act.put, List.setIfInBounds_toArray, List.set_cons_zero, List.set_cons_succ]
              refine take_list (i := 4) (v := ?_) rfl (by kernel_rfl) (by kernel_rfl) (by kernel_rfl) (fun _ _ _ h => h) (Or.inl ⟨by rfl, ?_⟩) (by assumption) ?_
              rotate_left
              · (intro w hSw; (try dsimp only at hSw); go_simp; try (with_reducible rfl))
              try simp only [Act.put, List.setIfInBounds_toArray, List.set_cons_zero, List.set_cons_succ]
              refine take_list (i := 5) (v := ?_) rfl (by kernel_rfl) (by kernel_rfl) (by kernel_rfl) (fun _ _ _ h => h) (Or.inl ⟨by rfl, ?_⟩) (by assumption) ?_
              rotate_left
              · (intro w hSw; (try dsimp only at hSw); go_simp; try (with_reducible rfl))
              try simp only [Act.put, List.setIfInBounds_toArray, List.set_cons_zero, List.set_cons_succ]
              refine take_list (i := 6) (v := ?_) rfl (by kernel_rfl) (by kernel_rfl) (by kernel_rfl) (fun _ _ _ h => h) (Or.inl ⟨by rfl, ?_⟩) (by assumption) ?_
              rotate_left
              · (intro w hSw; (try dsimp only at hSw); go_simp; try (with_reducible rfl))
              try simp only [Act.put, List.setIfInBounds_toArray, List.set_cons_zero, List.set_cons_succ]
              refine take_list (i := 7) (v := ?_) rfl (by kernel_rfl) (by kernel_rfl) (by kernel_rfl) (fun _ _ _ h => h) (Or.inl ⟨by rfl, ?_⟩) (by assumption) ?_
              rotate_left
              · (intro w hSw; (try dsimp only at hSw); go_simp; try (with_reducible rfl))
              try simp only [Act.put, List.setIfInBounds_toArray, List.set_cons_zero, List.set_cons_succ]
              refine take_list (i := 8) (v := ?_) rfl (by kernel_rfl) (by kernel_rfl) (by kernel_rfl) (fun _ _ _ h => h) (Or.inl ⟨by rfl, ?_⟩) (by assumption) ?_
              rotate_left
              · (intro w hSw; (try dsimp only at hSw); go_simp; try (with_reducible rfl))
              try simp only [Act.put, List.setIfInBounds_toArray, List.set_cons_zero, List.set_cons_succ]
              refine wpAnyH_done (by kernel_rfl) ?_ _
              clear hHeld0
              go_wp2
              go_roundw
              case rel =>
                refine ⟨k + 1, by omega, by go_num, fun z hz => ?_, B3.out⟩
                rw [HTY.out] at hz
                rcases List.mem_append.1 hz with hz | hz
                · exact HNE.out z hz
                · simp at hz; subst hz; exact fun e => HE.out e.symm
              case measure => simp [intOf]; omega
          · have hki' : k = i := by omega
            have HNX := Lib.hid (show x ∉ l.take i from fun hm => by rw [← hki'] at hm; exact HNE.out x hm rfl)
            clear hki' hB2
            go_wp2
            go_roundw
            case rel =>
              refine ⟨i + 1, by omega, by go_num, ?_, ?_, B2.out⟩
              · rw [HT.out, List.any_append, HBAD.out]; simp [HN.out]
              · rw [HT.out, List.nodup_append]
                exact ⟨HND.out, by simp, fun a ha b hb => by simp at hb; subst hb; exact fun e => HNX.out (e ▸ ha)⟩
            case measure => simp [intOf]; omega
      · have hn : nameB x = false := by simpa using hn
        rw [hn]
        have HF := Lib.hid (show namesB l = false from by
          have : l.any badName = true := by
            rw [List.any_eq_true]
            exact ⟨x, List.mem_of_getElem? HX.out, by unfold badName; rw [hn]; rfl⟩
          unfold namesB; rw [this]; rfl)
        clear hn
        go_wp2
        go_ret
        exact ⟨ret_bool HF.out.symm, B1.out⟩
    · have HF := Lib.hid (show namesB l = true from by
        have h1 := HBAD.out
        have h2 := HND.out
        rw [List.take_of_length_le (by omega)] at h1 h2
        unfold namesB; rw [h1]; simp [h2])
      clear hB
      go_wp2
      go_ret
      exact ⟨ret_bool HF.out.symm, BX.out⟩
end

section
/-- Destinations that may be, but for their names. -/
def destsB (p : Net) : Bool := p.dests.all (fun d => destB d p.nodes.length) && decide (p.dests.length ≤ 4)
attribute [local go_sem ↓] Go.wp_at_zero Go.wp_at_succ
set_option maxRecDepth 100000 in
set_option maxHeartbeats 4000000 in
theorem rdests_any (p : Net) (h : Hd) (w : World) (hp : NetR w w.heap.size p h) (hs : Small p) :
    Calls Tryz.prog 42 #[netV p h] w fun e w' => e = .returned (.bool (destsB p)) ∧ Below w.heap.size w w' := by
  have PX : Hid (AtRight w p h (w.alloc (.cells #[.int .i64 p.proto, .int .i64 p.cap, .int .i64 p.k, .slice h.an p.nodes.length h.cn, .slice h.al p.links.length h.cl, .slice h.ad p.dests.length h.cd, .slice h.ac p.checks.length h.cc] 30))) := Lib.hid (AtRight.begin hp)
  have hd1 := hs.dests
  have hnn := hs.nodes
  have HSm := Lib.hid hs
  clear hp hs
  unfold netV netVal
  go_enter Tryz.func42, Tryz.ntmps42
  go_wp2_with fail
  generalize w.alloc (.cells #[.int .i64 p.proto, .int .i64 p.cap, .int .i64 p.k, .slice h.an p.nodes.length h.cn, .slice h.al p.links.length h.cl, .slice h.ad p.dests.length h.cd, .slice h.ac p.checks.length h.cc] 30) = w1 at *
  go_loopw [3] (fun si wx => ∃ i : Nat, i ≤ p.dests.length ∧ si = .int .i64 i ∧ (p.dests.take i).all (fun d => destB d p.nodes.length) = true ∧ AtRight w p h wx) (fun si _ => p.dests.length - (intOf si).toNat)
  case atStart => exact ⟨0, Nat.zero_le _, rfl, by simp, PX.out⟩
  case round =>
    obtain ⟨i, hi, rfl, hall, hA⟩ := hrel
    have HALL := Lib.hid hall
    have AX := Lib.hid hA
    obtain ⟨c0, c1, c2, c3, c4, c5, c6⟩ := hA.all
    clear hall
    by_cases hlt : i < p.dests.length
    · obtain ⟨z, bd, od, hz, ed, hbd, hcd, hrd⟩ := hA.net.dest1 hlt
      have HED := Lib.hid ed
      rw [ed] at c5
      have hts : p.dests.take (i + 1) = p.dests.take i ++ [z.1] := by rw [List.take_add_one, hz]; rfl
      have HT := Lib.hid hts
      have HZm := Lib.hid (List.mem_of_getElem? hz)
      have hosl := HSm.out.origins _ (List.mem_of_getElem? hz)
      have HDB : Hid (destB z.1 p.nodes.length = ((List.range z.1.origins.length).all (okAt z.1.origins p.nodes.length) && decide (0 < z.1.origins.length))) := Lib.hid rfl
      have HRD := Lib.hid hrd
      have HBAD : Hid (destB z.1 p.nodes.length = false → destsB p = false) := Lib.hid (fun e => by
        unfold destsB
        have : p.dests.all (fun d => destB d p.nodes.length) = false := List.all_eq_false.2 ⟨_, HZm.out, by simp [e]⟩
        rw [this]; rfl)
      have hi0 : (0 : Int) ≤ (i : Int) := by omega
      generalize hos : z.1.origins = os at *
      generalize z.2.1 = az at *
      generalize z.2.2 = cz at *
      clear hz ed hts hrd hA hos
      by_cases h0 : os.length = 0
      · have hq : ((os.length : Int) == 0) = true := by simp [h0]
        have HF := Lib.hid (HBAD.out (by rw [HDB.out, h0]; simp))
        clear h0
        go_wp2
        go_ret
        exact ⟨ret_bool HF.out.symm, AX.out.below⟩
      · have hq : ((os.length : Int) == 0) = false := by simp; intro e; rw [e] at h0; exact h0 rfl
        have hpos : 0 < os.length := by omega
        clear h0
        go_wp2_with fail
        clear c0 c1 c2 c3 c4 c5 c6 hq hcd hbd
        obtain ⟨Q, hQ0, hQ⟩ : ∃ Q : World → Prop, Q wr ∧ ∀ wy, Q wy → Q wy.drew ∧ AtRight w p h wy ∧ Rd wy wy.heap.size 1 az os.length (ints os) :=
          ⟨fun wy => Below wr.heap.size wr wy, Below.refl _ _, fun wy hb => ⟨below_drew hb, AX.out.call hb, (HRD.out.below hb (Nat.le_refl _)).more hb.size⟩⟩
        have HQ := Lib.hid hQ
        clear hQ
        go_loopw [5] (fun sk wx => ∃ k : Nat, k ≤ os.length ∧ sk = .int .i64 k ∧ (List.range k).all (okAt os p.nodes.length) = true ∧ Q wx) (fun sk _ => os.length - (intOf sk).toNat)
        case atStart => exact ⟨0, Nat.zero_le _, rfl, by simp, hQ0⟩
        case round =>
          obtain ⟨k, hk, rfl, hok, hq⟩ := hrel
          have HOK := Lib.hid hok
          have HQX := Lib.hid hq
          obtain ⟨hqd, hA2, hrd2⟩ := HQ.out _ hq
          have AX2 := Lib.hid hA2
          clear hok hQ0
          by_cases hkl : k < os.length
          · obtain ⟨o, ho⟩ : ∃ o, os[k]? = some o := ⟨_, List.getElem?_eq_getElem hkl⟩
            obtain ⟨b, off, rfl, hb, hc⟩ := hrd2.one (i := k) (x := .int .i64 o) (by simp [ints, ho])
            have hk0 : (0 : Int) ≤ (k : Int) := by omega
            have HQD := Lib.hid hqd
            have AXD := Lib.hid (hA2.call (below_drew (Below.refl _ _)))
            have hcd : wr.drew.cell? ⟨b, off + k, none⟩ = some (.int .i64 o) := hc
            by_cases hp : placeB o p.nodes.length = true
            · have CP : Hid (∀ wy, Calls Tryz.prog 69 #[.int .i64 o, .int .i64 (p.nodes.length : Int)] wy fun e w' => e = .returned (.bool true) ∧ wy = w') := Lib.hid (fun wy => (rplace_any o p.nodes.length wy).mono fun e w' ⟨h1, h2⟩ => ⟨by rw [h1, hp], h2⟩)
              by_cases hk00 : k = 0
              · have HO := Lib.hid (show okAt os p.nodes.length k = true from by subst hk00; simp [okAt, ho, hp])
                have hkp : decide ((0 : Int) < (k : Int)) = false := decide_eq_false (by omega)
                have hkp' : decide (0 < k) = false := decide_eq_false (by omega)
                have HS := Lib.hid (show ∀ wy, wy = wr.drew → (wy.cell? ⟨w.heap.size, 0, none⟩ = some (.int .i64 p.proto) ∧ wy.cell? ⟨w.heap.size, 1, none⟩ = some (.int .i64 p.cap) ∧ wy.cell? ⟨w.heap.size, 2, none⟩ = some (.int .i64 p.k) ∧ wy.cell? ⟨w.heap.size, 3, none⟩ = some (.slice h.an p.nodes.length h.cn) ∧ wy.cell? ⟨w.heap.size, 4, none⟩ = some (.slice h.al p.links.length h.cl) ∧ wy.cell? ⟨w.heap.size, 5, none⟩ = some (.slice h.ad p.dests.length h.cd) ∧ wy.cell? ⟨w.heap.size, 6, none⟩ = some (.slice h.ac p.checks.length h.cc)) ∧ wy.cell? ⟨b, off + k, none⟩ = some (.int .i64 o) from fun wy e => by subst e; exact ⟨AXD.out.all, hcd⟩)
                clear hp ho hc hrd2 hq hA2 hqd hk00 hcd
                go_upto_region 10 with fail
                refine wp_region_held_drew (S := (fun wy => (wy.cell? ⟨w.heap.size, 0, none⟩ = some (.int .i64 p.proto) ∧ wy.cell? ⟨w.heap.size, 1, none⟩ = some (.int .i64 p.cap) ∧ wy.cell? ⟨w.heap.size, 2, none⟩ = some (.int .i64 p.k) ∧ wy.cell? ⟨w.heap.size, 3, none⟩ = some (.slice h.an p.nodes.length h.cn) ∧ wy.cell? ⟨w.heap.size, 4, none⟩ = some (.slice h.al p.links.length h.cl) ∧ wy.cell? ⟨w.heap.size, 5, none⟩ = some (.slice h.ad p.dests.length h.cd) ∧ wy.cell? ⟨w.heap.size, 6, none⟩ = some (.slice h.ac p.checks.length h.cc)) ∧ wy.cell? ⟨b, off + k, none⟩ = some (.int .i64 o))) (by kernel_rfl) (HS.out _ rfl) (fun hHeld0 => ?_)
                refine take_list (i := 0) (v := ?_) rfl (by kernel_rfl) (by kernel_rfl) (by kernel_rfl) (fun _ _ _ h => h) (Or.inl ⟨by rfl, ?_⟩) (by assumption) ?_
                rotate_left
                · (intro w hSw; (try dsimp only at hSw); go_simp; try (with_reducible rfl))
                try simp only [Act.put, List.setIfInBounds_toArray, List.set_cons_zero, List.set_cons_succ]
                refine take_list (i := 1) (v := ?_) rfl (by kernel_rfl) (by kernel_rfl) (by kernel_rfl) (fun _ _ _ h => h) (Or.inl ⟨by rfl, ?_⟩) (by assumption) ?_
                rotate_left
                · (intro w hSw; (try dsimp only at hSw); go_simp; try (with_reducible rfl))
                try simp only [Act.put, List.setIfInBounds_toArray, List.set_cons_zero, List.set_cons_succ]
                refine take_list (i := 2) (v := ?_) rfl (by kernel_rfl) (by kernel_rfl) (by kernel_rfl) (fun _ _ _ h => h) (Or.inl ⟨by rfl, ?_⟩) (by assumption) ?_
                rotate_left
                · (intro w hSw; (try dsimp only at hSw); go_simp; try (with_reducible rfl))
                try simp only [Act.put, List.setIfInBounds_toArray, List.set_cons_zero, List.set_cons_succ]
                refine take_list (i := 3) (v := ?_) rfl (by kernel_rfl) (by kernel_rfl) (by kernel_rfl) (fun _ _ _ h => h) (Or.inl ⟨by rfl, ?_⟩) (by assumption) ?_
                rotate_left
                · (intro w hSw; (try dsimp only at hSw); go_simp; try (with_reducible rfl))
                try simp only [Act.put, List.setIfInBounds_toArray, List.set_cons_zero, List.set_cons_succ]
                refine take_list (i := 4) (v := ?_) rfl (by kernel_rfl) (by kernel_rfl) (by kernel_rfl) (fun _ _ _ h => h) (Or.inl ⟨by rfl, ?_⟩) (by assumption) ?_
                rotate_left
                · (intro w hSw; (try dsimp only at hSw); go_simp; try (with_reducible rfl))
                try simp only [Act.put, List.setIfInBounds_toArray, List.set_cons_zero, List.set_cons_succ]
                refine take_list (i := 5) (v := ?_) rfl (by kernel_rfl) (by kernel_rfl) (by kernel_rfl) (fun _ _ _ h => h) (Or.inl ⟨by rfl, ?_⟩) (by assumption) ?_
                rotate_left
                · (intro w hSw; (try dsimp only at hSw); go_simp; try (with_reducible rfl))
                try simp only [Act.put, List.setIfInBounds_toArray, List.set_cons_zero, List.set_cons_succ]
                refine take_list (i := 6) (v := ?_) rfl (by kernel_rfl) (by kernel_rfl) (by kernel_rfl) (fun _ _ _ h => h) (Or.inl ⟨by rfl, ?_⟩) (by assumption) ?_
                rotate_left
                · (intro w hSw; (try dsimp only at hSw); go_simp; try (with_reducible rfl))
                try simp only [Act.put, List.setIfInBounds_toArray, List.set_cons_zero, List.set_cons_succ]
                refine wpAnyH_ready (rs := [7]) (by kernel_rfl) (by simp) ?_
                refine cons_list rfl (fun K hK => ?_) AllReadyH.nil
                go_simp
                (go_at_call 69; refine (CP.out _).mono ?_; rintro e wm ⟨rfl, rfl⟩)
                refine hK.out _ _ (HS.out _ rfl) (fun hHeld1 => ?_)
                clear hK K hHeld0
                try simp only [Act.put, List.setIfInBounds_toArray, List.set_cons_zero, List.set_cons_succ]
                refine take_list (i := 8) (v := ?_) rfl (by kernel_rfl) (by kernel_rfl) (by kernel_rfl) (fun _ _ _ h => h) (Or.inl ⟨by rfl, ?_⟩) (by assumption) ?_
                rotate_left
                · (intro w hSw; (try dsimp only at hSw); go_simp; try (with_reducible rfl))
                try simp only [Act.put, List.setIfInBounds_toArray, List.set_cons_zero, List.set_cons_succ]
                refine take_list (i := 9) (v := ?_) rfl (by kernel_rfl) (by kernel_rfl) (by kernel_rfl) (fun _ _ _ h => h) (Or.inl ⟨by rfl, ?_⟩) (by assumption) ?_
                rotate_left
                · (intro w hSw; (try dsimp only at hSw); go_simp; try (with_reducible rfl))
                try simp only [Act.put, List.setIfInBounds_toArray, List.set_cons_zero, List.set_cons_succ]
                refine take_list (i := 10) (v := ?_) rfl (by kernel_rfl) (by kernel_rfl) (by kernel_rfl) (fun _ _ _ h => h) (Or.inl ⟨by rfl, ?_⟩) (by assumption) ?_
                rotate_left
                · (intro w hSw; (try dsimp only at hSw); go_simp; try (with_reducible rfl))
                try simp only [Act.put, List.setIfInBounds_toArray, List.set_cons_zero, List.set_cons_succ]
                refine take_list (i := 11) (v := ?_) rfl (by kernel_rfl) (by kernel_rfl) (by kernel_rfl) (fun _ _ _ h => h) (Or.inl ⟨by rfl, ?_⟩) (by assumption) ?_
                rotate_left
                · (intro w hSw; (try dsimp only at hSw); go_simp; try (with_reducible rfl))
                try simp only [Act.put, List.setIfInBounds_toArray, List.set_cons_zero, List.set_cons_succ]
                refine take_list (i := 12) (v := ?_) rfl (by kernel_rfl) (by kernel_rfl) (by kernel_rfl) (fun _ _ _ h => h) (Or.inl ⟨by rfl, ?_⟩) (by assumption) ?_
                rotate_left
                · (intro w hSw; (try dsimp only at hSw); go_simp; try (with_reducible rfl))
                try simp only [Act.put, List.setIfInBounds_toArray, List.set_cons_zero, List.set_cons_succ]
                refine take_list (i := 13) (v := undef) rfl (by kernel_rfl) (by kernel_rfl) (by kernel_rfl) (fun _ _ _ h => h) (Or.inr ⟨by rfl, rfl⟩) (by assumption) ?_
                try simp only [Act.put, List.setIfInBounds_toArray, List.set_cons_zero, List.set_cons_succ]
                refine take_list (i := 14) (v := undef) rfl (by kernel_rfl) (by kernel_rfl) (by kernel_rfl) (fun _ _ _ h => h) (Or.inr ⟨by rfl, rfl⟩) (by assumption) ?_
                try simp only [Act.put, List.setIfInBounds_toArray, List.set_cons_zero, List.set_cons_succ]
                refine take_list (i := 15) (v := undef) rfl (by kernel_rfl) (by kernel_rfl) (by kernel_rfl) (fun _ _ _ h => h) (Or.inr ⟨by rfl, rfl⟩) (by assumption) ?_
                try simp only [Act.put, List.setIfInBounds_toArray, List.set_cons_zero, List.set_cons_succ]
                refine take_list (i := 16) (v := undef) rfl (by kernel_rfl) (by kernel_rfl) (by kernel_rfl) (fun _ _ _ h => h) (Or.inr ⟨by rfl, rfl⟩) (by assumption) ?_
                try simp only [Act.put, List.setIfInBounds_toArray, List.set_cons_zero, List.set_cons_succ]
                refine take_list (i := 17) (v := undef) rfl (by kernel_rfl) (by kernel_rfl) (by kernel_rfl) (fun _ _ _ h => h) (Or.inr ⟨by rfl, rfl⟩) (by assumption) ?_
                try simp only [Act.put, List.setIfInBounds_toArray, List.set_cons_zero, List.set_cons_succ]
                refine take_list (i := 18) (v := undef) rfl (by kernel_rfl) (by kernel_rfl) (by kernel_rfl) (fun _ _ _ h => h) (Or.inr ⟨by rfl, rfl⟩) (by assumption) ?_
                try simp only [Act.put, List.setIfInBounds_toArray, List.set_cons_zero, List.set_cons_succ]
                refine take_list (i := 19) (v := undef) rfl (by kernel_rfl) (by kernel_rfl) (by kernel_rfl) (fun _ _ _ h => h) (Or.inr ⟨by rfl, rfl⟩) (by assumption) ?_
                try simp only [Act.put, List.setIfInBounds_toArray, List.set_cons_zero, List.set_cons_succ]
                refine take_list (i := 20) (v := undef) rfl (by kernel_rfl) (by kernel_rfl) (by kernel_rfl) (fun _ _ _ h => h) (Or.inr ⟨by rfl, rfl⟩) (by assumption) ?_
                try simp only [Act.put, List.setIfInBounds_toArray, List.set_cons_zero, List.set_cons_succ]
                refine take_list (i := 21) (v := undef) rfl (by kernel_rfl) (by kernel_rfl) (by kernel_rfl) (fun _ _ _ h => h) (Or.inr ⟨by rfl, rfl⟩) (by assumption) ?_
                try simp only [Act.put, List.setIfInBounds_toArray, List.set_cons_zero, List.set_cons_succ]
                refine take_list (i := 22) (v := undef) rfl (by kernel_rfl) (by kernel_rfl) (by kernel_rfl) (fun _ _ _ h => h) (Or.inr ⟨by rfl, rfl⟩) (by assumption) ?_
                try simp only [Act.put, List.setIfInBounds_toArray, List.set_cons_zero, List.set_cons_succ]
                refine take_list (i := 23) (v := ?_) rfl (by kernel_rfl) (by kernel_rfl) (by kernel_rfl) (fun _ _ _ h => h) (Or.inl ⟨by rfl, ?_⟩) (by assumption) ?_
                rotate_left
                · (intro w hSw; (try dsimp only at hSw); go_simp; try (with_reducible rfl))
                try simp only [Act.put, List.setIfInBounds_toArray, List.set_cons_zero, List.set_cons_succ]
                refine take_list (i := 24) (v := ?_) rfl (by kernel_rfl) (by kernel_rfl) (by kernel_rfl) (fun _ _ _ h => h) (Or.inl ⟨by rfl, ?_⟩) (by assumption) ?_
                rotate_left
                · (intro w hSw; (try dsimp only at hSw); go_simp; try (with_reducible rfl))
                try simp only [Act.put, List.setIfInBounds_toArray, List.set_cons_zero, List.set_cons_succ]
                refine wpAnyH_done (by kernel_rfl) ?_ _
                clear hHeld1
                go_wp2
                go_roundw
                case rel => exact ⟨k + 1, by omega, by go_num, by rw [all_range_succ, HOK.out, HO.out]; rfl, HQD.out⟩
                case measure => simp [intOf]; omega
              · obtain ⟨q, hq1⟩ : ∃ q, os[k - 1]? = some q := ⟨_, List.getElem?_eq_getElem (by omega)⟩
                obtain ⟨b2, off2, e2, hb2, hc2⟩ := hrd2.one (i := k - 1) (x := .int .i64 q) (by simp [ints, hq1])
                injection e2 with e2
                injection e2 with e3 e4
                subst e3 e4
                have hc2d : wr.drew.cell? ⟨b, off + (k - 1), none⟩ = some (.int .i64 q) := hc2
                have hkp : decide ((0 : Int) < (k : Int)) = true := decide_eq_true (by omega)
                have hkp' : decide (0 < k) = true := decide_eq_true (by omega)
                have hwr : IntKind.i64.wrap ((k : Int) - 1) = ((k - 1 : Nat) : Int) := by rw [IntKind.wrap_i64]; omega
                have HS := Lib.hid (show ∀ wy, wy = wr.drew → (wy.cell? ⟨w.heap.size, 0, none⟩ = some (.int .i64 p.proto) ∧ wy.cell? ⟨w.heap.size, 1, none⟩ = some (.int .i64 p.cap) ∧ wy.cell? ⟨w.heap.size, 2, none⟩ = some (.int .i64 p.k) ∧ wy.cell? ⟨w.heap.size, 3, none⟩ = some (.slice h.an p.nodes.length h.cn) ∧ wy.cell? ⟨w.heap.size, 4, none⟩ = some (.slice h.al p.links.length h.cl) ∧ wy.cell? ⟨w.heap.size, 5, none⟩ = some (.slice h.ad p.dests.length h.cd) ∧ wy.cell? ⟨w.heap.size, 6, none⟩ = some (.slice h.ac p.checks.length h.cc)) ∧ wy.cell? ⟨b, off + k, none⟩ = some (.int .i64 o) ∧ wy.cell? ⟨b, off + (k - 1), none⟩ = some (.int .i64 q) from fun wy e => by subst e; exact ⟨AXD.out.all, hcd, hc2d⟩)
                have hkk : ((k - 1 : Nat) : Int) < (os.length : Int) := by omega
                have hkk' : k - 1 < os.length := by omega
                have hkk0 : (0 : Int) ≤ ((k - 1 : Nat) : Int) := by omega
                by_cases hqo : q < o
                · have HO := Lib.hid (show okAt os p.nodes.length k = true from by simp [okAt, ho, hp, hq1, hqo])
                  have hqd' : decide (o ≤ q) = false := decide_eq_false (by omega)
                  clear hp ho hc hrd2 hq hA2 hqd hk00 hcd hq1 hc2 hc2d hqo hb2
                  go_upto_region 10 with fail
                  refine wp_region_held_drew (S := (fun wy => (wy.cell? ⟨w.heap.size, 0, none⟩ = some (.int .i64 p.proto) ∧ wy.cell? ⟨w.heap.size, 1, none⟩ = some (.int .i64 p.cap) ∧ wy.cell? ⟨w.heap.size, 2, none⟩ = some (.int .i64 p.k) ∧ wy.cell? ⟨w.heap.size, 3, none⟩ = some (.slice h.an p.nodes.length h.cn) ∧ wy.cell? ⟨w.heap.size, 4, none⟩ = some (.slice h.al p.links.length h.cl) ∧ wy.cell? ⟨w.heap.size, 5, none⟩ = some (.slice h.ad p.dests.length h.cd) ∧ wy.cell? ⟨w.heap.size, 6, none⟩ = some (.slice h.ac p.checks.length h.cc)) ∧ wy.cell? ⟨b, off + k, none⟩ = some (.int .i64 o) ∧ wy.cell? ⟨b, off + (k - 1), none⟩ = some (.int .i64 q))) (by kernel_rfl) (HS.out _ rfl) (fun hHeld0 => ?_)
                  refine take_list (i := 0) (v := ?_) rfl (by kernel_rfl) (by kernel_rfl) (by kernel_rfl) (fun _ _ _ h => h) (Or.inl ⟨by rfl, ?_⟩) (by assumption) ?_
                  rotate_left
                  · (intro w hSw; (try dsimp only at hSw); go_simp; try (with_reducible rfl))
                  try simp only [Act.put, List.setIfInBounds_toArray, List.set_cons_zero, List.set_cons_succ]
                  refine take_list (i := 1) (v := ?_) rfl (by kernel_rfl) (by kernel_rfl) (by kernel_rfl) (fun _ _ _ h => h) (Or.inl ⟨by rfl, ?_⟩) (by assumption) ?_
                  rotate_left
                  · (intro w hSw; (try dsimp only at hSw); go_simp; try (with_reducible rfl))
                  try simp only [Act.put, List.setIfInBounds_toArray, List.set_cons_zero, List.set_cons_succ]
                  refine take_list (i := 2) (v := ?_) rfl (by kernel_rfl) (by kernel_rfl) (by kernel_rfl) (fun _ _ _ h => h) (Or.inl ⟨by rfl, ?_⟩) (by assumption) ?_
                  rotate_left
                  · (intro w hSw; (try dsimp only at hSw); go_simp; try (with_reducible rfl))
                  try simp only [Act.put, List.setIfInBounds_toArray, List.set_cons_zero, List.set_cons_succ]
                  refine take_list (i := 3) (v := ?_) rfl (by kernel_rfl) (by kernel_rfl) (by kernel_rfl) (fun _ _ _ h => h) (Or.inl ⟨by rfl, ?_⟩) (by assumption) ?_
                  rotate_left
                  · (intro w hSw; (try dsimp only at hSw); go_simp; try (with_reducible rfl))
                  try simp only [Act.put, List.setIfInBounds_toArray, List.set_cons_zero, List.set_cons_succ]
                  refine take_list (i := 4) (v := ?_) rfl (by kernel_rfl) (by kernel_rfl) (by kernel_rfl) (fun _ _ _ h => h) (Or.inl ⟨by rfl, ?_⟩) (by assumption) ?_
                  rotate_left
                  · (intro w hSw; (try dsimp only at hSw); go_simp; try (with_reducible rfl))
                  try simp only [Act.put, List.setIfInBounds_toArray, List.set_cons_zero, List.set_cons_succ]
                  refine take_list (i := 5) (v := ?_) rfl (by kernel_rfl) (by kernel_rfl) (by kernel_rfl) (fun _ _ _ h => h) (Or.inl ⟨by rfl, ?_⟩) (by assumption) ?_
                  rotate_left
                  · (intro w hSw; (try dsimp only at hSw); go_simp; try (with_reducible rfl))
                  try simp only [Act.put, List.setIfInBounds_toArray, List.set_cons_zero, List.set_cons_succ]
                  refine take_list (i := 6) (v := ?_) rfl (by kernel_rfl) (by kernel_rfl) (by kernel_rfl) (fun _ _ _ h => h) (Or.inl ⟨by rfl, ?_⟩) (by assumption) ?_
                  rotate_left
                  · (intro w hSw; (try dsimp only at hSw); go_simp; try (with_reducible rfl))
                  try simp only [Act.put, List.setIfInBounds_toArray, List.set_cons_zero, List.set_cons_succ]
                  refine wpAnyH_ready (rs := [7]) (by kernel_rfl) (by simp) ?_
                  refine cons_list rfl (fun K hK => ?_) AllReadyH.nil
                  go_simp
                  (go_at_call 69; refine (CP.out _).mono ?_; rintro e wm ⟨rfl, rfl⟩)
                  refine hK.out _ _ (HS.out _ rfl) (fun hHeld1 => ?_)
                  clear hK K hHeld0
                  try simp only [Act.put, List.setIfInBounds_toArray, List.set_cons_zero, List.set_cons_succ]
                  refine take_list (i := 8) (v := ?_) rfl (by kernel_rfl) (by kernel_rfl) (by kernel_rfl) (fun _ _ _ h => h) (Or.inl ⟨by rfl, ?_⟩) (by assumption) ?_
                  rotate_left
                  · (intro w hSw; (try dsimp only at hSw); go_simp; try (with_reducible rfl))
                  try simp only [Act.put, List.setIfInBounds_toArray, List.set_cons_zero, List.set_cons_succ]
                  refine take_list (i := 9) (v := ?_) rfl (by kernel_rfl) (by kernel_rfl) (by kernel_rfl) (fun _ _ _ h => h) (Or.inl ⟨by rfl, ?_⟩) (by assumption) ?_
                  rotate_left
                  · (intro w hSw; (try dsimp only at hSw); go_simp; try (with_reducible rfl))
                  try simp only [Act.put, List.setIfInBounds_toArray, List.set_cons_zero, List.set_cons_succ]
                  refine take_list (i := 10) (v := ?_) rfl (by kernel_rfl) (by kernel_rfl) (by kernel_rfl) (fun _ _ _ h => h) (Or.inl ⟨by rfl, ?_⟩) (by assumption) ?_
                  rotate_left
                  · (intro w hSw; (try dsimp only at hSw); go_simp; try (with_reducible rfl))
                  try simp only [Act.put, List.setIfInBounds_toArray, List.set_cons_zero, List.set_cons_succ]
                  refine take_list (i := 11) (v := ?_) rfl (by kernel_rfl) (by kernel_rfl) (by kernel_rfl) (fun _ _ _ h => h) (Or.inl ⟨by rfl, ?_⟩) (by assumption) ?_
                  rotate_left
                  · (intro w hSw; (try dsimp only at hSw); go_simp; try (with_reducible rfl))
                  try simp only [Act.put, List.setIfInBounds_toArray, List.set_cons_zero, List.set_cons_succ]
                  refine take_list (i := 12) (v := ?_) rfl (by kernel_rfl) (by kernel_rfl) (by kernel_rfl) (fun _ _ _ h => h) (Or.inl ⟨by rfl, ?_⟩) (by assumption) ?_
                  rotate_left
                  · (intro w hSw; (try dsimp only at hSw); go_simp; try (with_reducible rfl))
                  try simp only [Act.put, List.setIfInBounds_toArray, List.set_cons_zero, List.set_cons_succ]
                  refine take_list (i := 13) (v := ?_) rfl (by kernel_rfl) (by kernel_rfl) (by kernel_rfl) (fun _ _ _ h => h) (Or.inl ⟨by rfl, ?_⟩) (by assumption) ?_
                  rotate_left
                  · (intro w hSw; (try dsimp only at hSw); go_simp; try (with_reducible rfl))
                  try simp only [Act.put, List.setIfInBounds_toArray, List.set_cons_zero, List.set_cons_succ]
                  refine take_list (i := 14) (v := ?_) rfl (by kernel_rfl) (by kernel_rfl) (by kernel_rfl) (fun _ _ _ h => h) (Or.inl ⟨by rfl, ?_⟩) (by assumption) ?_
                  rotate_left
                  · (intro w hSw; (try dsimp only at hSw); go_simp; try (with_reducible rfl))
                  try simp only [Act.put, List.setIfInBounds_toArray, List.set_cons_zero, List.set_cons_succ]
                  refine take_list (i := 15) (v := ?_) rfl (by kernel_rfl) (by kernel_rfl) (by kernel_rfl) (fun _ _ _ h => h) (Or.inl ⟨by rfl, ?_⟩) (by assumption) ?_
                  rotate_left
                  · (intro w hSw; (try dsimp only at hSw); go_simp; try (with_reducible rfl))
                  try simp only [Act.put, List.setIfInBounds_toArray, List.set_cons_zero, List.set_cons_succ]
                  refine take_list (i := 16) (v := ?_) rfl (by kernel_rfl) (by kernel_rfl) (by kernel_rfl) (fun _ _ _ h => h) (Or.inl ⟨by rfl, ?_⟩) (by assumption) ?_
                  rotate_left
                  · (intro w hSw; (try dsimp only at hSw); go_simp; try (with_reducible rfl))
                  try simp only [Act.put, List.setIfInBounds_toArray, List.set_cons_zero, List.set_cons_succ]
                  refine take_list (i := 17) (v := ?_) rfl (by kernel_rfl) (by kernel_rfl) (by kernel_rfl) (fun _ _ _ h => h) (Or.inl ⟨by rfl, ?_⟩) (by assumption) ?_
                  rotate_left
                  · (intro w hSw; (try dsimp only at hSw); go_simp; try (with_reducible rfl))
                  try simp only [Act.put, List.setIfInBounds_toArray, List.set_cons_zero, List.set_cons_succ]
                  refine take_list (i := 18) (v := ?_) rfl (by kernel_rfl) (by kernel_rfl) (by kernel_rfl) (fun _ _ _ h => h) (Or.inl ⟨by rfl, ?_⟩) (by assumption) ?_
                  rotate_left
                  · (intro w hSw; (try dsimp only at hSw); go_simp; try (with_reducible rfl))
                  try simp only [Act.put, List.setIfInBounds_toArray, List.set_cons_zero, List.set_cons_succ]
                  refine take_list (i := 19) (v := ?_) rfl (by kernel_rfl) (by kernel_rfl) (by kernel_rfl) (fun _ _ _ h => h) (Or.inl ⟨by rfl, ?_⟩) (by assumption) ?_
                  rotate_left
                  · (intro w hSw; (try dsimp only at hSw); go_simp; try (with_reducible rfl))
                  try simp only [Act.put, List.setIfInBounds_toArray, List.set_cons_zero, List.set_cons_succ]
                  refine take_list (i := 20) (v := ?_) rfl (by kernel_rfl) (by kernel_rfl) (by kernel_rfl) (fun _ _ _ h => h) (Or.inl ⟨by rfl, ?_⟩) (by assumption) ?_
                  rotate_left
                  · (intro w hSw; (try dsimp only at hSw); go_simp; try (with_reducible rfl))
                  try simp only [Act.put, List.setIfInBounds_toArray, List.set_cons_zero, List.set_cons_succ]
                  refine take_list (i := 21) (v := ?_) rfl (by kernel_rfl) (by kernel_rfl) (by kernel_rfl) (fun _ _ _ h => h) (Or.inl ⟨by rfl, ?_⟩) (by assumption) ?_
                  rotate_left
                  · (intro w hSw; (try dsimp only at hSw); go_simp; try (with_reducible rfl))
                  try simp only [Act.put, List.setIfInBounds_toArray, List.set_cons_zero, List.set_cons_succ]
                  refine take_list (i := 22) (v := ?_) rfl (by kernel_rfl) (by kernel_rfl) (by kernel_rfl) (fun _ _ _ h => h) (Or.inl ⟨by rfl, ?_⟩) (by assumption) ?_
                  rotate_left
                  · (intro w hSw; (try dsimp only at hSw); go_simp; try (with_reducible rfl))
                  try simp only [Act.put, List.setIfInBounds_toArray, List.set_cons_zero, List.set_cons_succ]
                  refine take_list (i := 23) (v := ?_) rfl (by kernel_rfl) (by kernel_rfl) (by kernel_rfl) (fun _ _ _ h => h) (Or.inl ⟨by rfl, ?_⟩) (by assumption) ?_
                  rotate_left
                  · (intro w hSw; (try dsimp only at hSw); go_simp; try (with_reducible rfl))
                  try simp only [Act.put, List.setIfInBounds_toArray, List.set_cons_zero, List.set_cons_succ]
                  refine take_list (i := 24) (v := ?_) rfl (by kernel_rfl) (by kernel_rfl) (by kernel_rfl) (fun _ _ _ h => h) (Or.inl ⟨by rfl, ?_⟩) (by assumption) ?_
                  rotate_left
                  · (intro w hSw; (try dsimp only at hSw); go_simp; try (with_reducible rfl))
                  try simp only [Act.put, List.setIfInBounds_toArray, List.set_cons_zero, List.set_cons_succ]
                  refine wpAnyH_done (by kernel_rfl) ?_ _
                  clear hHeld1
                  go_wp2
                  go_roundw
                  case rel => exact ⟨k + 1, by omega, by go_num, by rw [all_range_succ, HOK.out, HO.out]; rfl, HQD.out⟩
                  case measure => simp [intOf]; omega
                · have HO := Lib.hid (show okAt os p.nodes.length k = false from by simp [okAt, ho, hq1, hqo]; omega)
                  have HF := Lib.hid (HBAD.out (by rw [HDB.out, all_range_false hkl HO.out]; rfl))
                  have hqd' : decide (o ≤ q) = true := decide_eq_true (by omega)
                  clear hp ho hc hrd2 hq hA2 hqd hk00 hcd hq1 hc2 hc2d hqo hb2
                  go_upto_region 10 with fail
                  refine wp_region_held_drew (S := (fun wy => (wy.cell? ⟨w.heap.size, 0, none⟩ = some (.int .i64 p.proto) ∧ wy.cell? ⟨w.heap.size, 1, none⟩ = some (.int .i64 p.cap) ∧ wy.cell? ⟨w.heap.size, 2, none⟩ = some (.int .i64 p.k) ∧ wy.cell? ⟨w.heap.size, 3, none⟩ = some (.slice h.an p.nodes.length h.cn) ∧ wy.cell? ⟨w.heap.size, 4, none⟩ = some (.slice h.al p.links.length h.cl) ∧ wy.cell? ⟨w.heap.size, 5, none⟩ = some (.slice h.ad p.dests.length h.cd) ∧ wy.cell? ⟨w.heap.size, 6, none⟩ = some (.slice h.ac p.checks.length h.cc)) ∧ wy.cell? ⟨b, off + k, none⟩ = some (.int .i64 o) ∧ wy.cell? ⟨b, off + (k - 1), none⟩ = some (.int .i64 q))) (by kernel_rfl) (HS.out _ rfl) (fun hHeld0 => ?_)
                  refine take_list (i := 0) (v := ?_) rfl (by kernel_rfl) (by kernel_rfl) (by kernel_rfl) (fun _ _ _ h => h) (Or.inl ⟨by rfl, ?_⟩) (by assumption) ?_
                  rotate_left
                  · (intro w hSw; (try dsimp only at hSw); go_simp; try (with_reducible rfl))
                  try simp only [Act.put, List.setIfInBounds_toArray, List.set_cons_zero, List.set_cons_succ]
                  refine take_list (i := 1) (v := ?_) rfl (by kernel_rfl) (by kernel_rfl) (by kernel_rfl) (fun _ _ _ h => h) (Or.inl ⟨by rfl, ?_⟩) (by assumption) ?_
                  rotate_left
                  · (intro w hSw; (try dsimp only at hSw); go_simp; try (with_reducible rfl))
                  try simp only [Act.put, List.setIfInBounds_toArray, List.set_cons_zero, List.set_cons_succ]
                  refine take_list (i := 2) (v := ?_) rfl (by kernel_rfl) (by kernel_rfl) (by kernel_rfl) (fun _ _ _ h => h) (Or.inl ⟨by rfl, ?_⟩) (by assumption) ?_
                  rotate_left
                  · (intro w hSw; (try dsimp only at hSw); go_simp; try (with_reducible rfl))
                  try simp only [Act.put, List.setIfInBounds_toArray, List.set_cons_zero, List.set_cons_succ]
                  refine take_list (i := 3) (v := ?_) rfl (by kernel_rfl) (by kernel_rfl) (by kernel_rfl) (fun _ _ _ h => h) (Or.inl ⟨by rfl, ?_⟩) (by assumption) ?_
                  rotate_left
                  · (intro w hSw; (try dsimp only at hSw); go_simp; try (with_reducible rfl))
                  try simp only [Act.put, List.setIfInBounds_toArray, List.set_cons_zero, List.set_cons_succ]
                  refine take_list (i := 4) (v := ?_) rfl (by kernel_rfl) (by kernel_rfl) (by kernel_rfl) (fun _ _ _ h => h) (Or.inl ⟨by rfl, ?_⟩) (by assumption) ?_
                  rotate_left
                  · (intro w hSw; (try dsimp only at hSw); go_simp; try (with_reducible rfl))
                  try simp only [Act.put, List.setIfInBounds_toArray, List.set_cons_zero, List.set_cons_succ]
                  refine take_list (i := 5) (v := ?_) rfl (by kernel_rfl) (by kernel_rfl) (by kernel_rfl) (fun _ _ _ h => h) (Or.inl ⟨by rfl, ?_⟩) (by assumption) ?_
                  rotate_left
                  · (intro w hSw; (try dsimp only at hSw); go_simp; try (with_reducible rfl))
                  try simp only [Act.put, List.setIfInBounds_toArray, List.set_cons_zero, List.set_cons_succ]
                  refine take_list (i := 6) (v := ?_) rfl (by kernel_rfl) (by kernel_rfl) (by kernel_rfl) (fun _ _ _ h => h) (Or.inl ⟨by rfl, ?_⟩) (by assumption) ?_
                  rotate_left
                  · (intro w hSw; (try dsimp only at hSw); go_simp; try (with_reducible rfl))
                  try simp only [Act.put, List.setIfInBounds_toArray, List.set_cons_zero, List.set_cons_succ]
                  refine wpAnyH_ready (rs := [7]) (by kernel_rfl) (by simp) ?_
                  refine cons_list rfl (fun K hK => ?_) AllReadyH.nil
                  go_simp
                  (go_at_call 69; refine (CP.out _).mono ?_; rintro e wm ⟨rfl, rfl⟩)
                  refine hK.out _ _ (HS.out _ rfl) (fun hHeld1 => ?_)
                  clear hK K hHeld0
                  try simp only [Act.put, List.setIfInBounds_toArray, List.set_cons_zero, List.set_cons_succ]
                  refine take_list (i := 8) (v := ?_) rfl (by kernel_rfl) (by kernel_rfl) (by kernel_rfl) (fun _ _ _ h => h) (Or.inl ⟨by rfl, ?_⟩) (by assumption) ?_
                  rotate_left
                  · (intro w hSw; (try dsimp only at hSw); go_simp; try (with_reducible rfl))
                  try simp only [Act.put, List.setIfInBounds_toArray, List.set_cons_zero, List.set_cons_succ]
                  refine take_list (i := 9) (v := ?_) rfl (by kernel_rfl) (by kernel_rfl) (by kernel_rfl) (fun _ _ _ h => h) (Or.inl ⟨by rfl, ?_⟩) (by assumption) ?_
                  rotate_left
                  · (intro w hSw; (try dsimp only at hSw); go_simp; try (with_reducible rfl))
                  try simp only [Act.put, List.setIfInBounds_toArray, List.set_cons_zero, List.set_cons_succ]
                  refine take_list (i := 10) (v := ?_) rfl (by kernel_rfl) (by kernel_rfl) (by kernel_rfl) (fun _ _ _ h => h) (Or.inl ⟨by rfl, ?_⟩) (by assumption) ?_
                  rotate_left
                  · (intro w hSw; (try dsimp only at hSw); go_simp; try (with_reducible rfl))
                  try simp only [Act.put, List.setIfInBounds_toArray, List.set_cons_zero, List.set_cons_succ]
                  refine take_list (i := 11) (v := ?_) rfl (by kernel_rfl) (by kernel_rfl) (by kernel_rfl) (fun _ _ _ h => h) (Or.inl ⟨by rfl, ?_⟩) (by assumption) ?_
                  rotate_left
                  · (intro w hSw; (try dsimp only at hSw); go_simp; try (with_reducible rfl))
                  try simp only [Act.put, List.setIfInBounds_toArray, List.set_cons_zero, List.set_cons_succ]
                  refine take_list (i := 12) (v := ?_) rfl (by kernel_rfl) (by kernel_rfl) (by kernel_rfl) (fun _ _ _ h => h) (Or.inl ⟨by rfl, ?_⟩) (by assumption) ?_
                  rotate_left
                  · (intro w hSw; (try dsimp only at hSw); go_simp; try (with_reducible rfl))
                  try simp only [Act.put, List.setIfInBounds_toArray, List.set_cons_zero, List.set_cons_succ]
                  refine take_list (i := 13) (v := ?_) rfl (by kernel_rfl) (by kernel_rfl) (by kernel_rfl) (fun _ _ _ h => h) (Or.inl ⟨by rfl, ?_⟩) (by assumption) ?_
                  rotate_left
                  · (intro w hSw; (try dsimp only at hSw); go_simp; try (with_reducible rfl))
                  try simp only [Act.put, List.setIfInBounds_toArray, List.set_cons_zero, List.set_cons_succ]
                  refine take_list (i := 14) (v := ?_) rfl (by kernel_rfl) (by kernel_rfl) (by kernel_rfl) (fun _ _ _ h => h) (Or.inl ⟨by rfl, ?_⟩) (by assumption) ?_
                  rotate_left
                  · (intro w hSw; (try dsimp only at hSw); go_simp; try (with_reducible rfl))
                  try simp only [Act.put, List.setIfInBounds_toArray, List.set_cons_zero, List.set_cons_succ]
                  refine take_list (i := 15) (v := ?_) rfl (by kernel_rfl) (by kernel_rfl) (by kernel_rfl) (fun _ _ _ h => h) (Or.inl ⟨by rfl, ?_⟩) (by assumption) ?_
                  rotate_left
                  · (intro w hSw; (try dsimp only at hSw); go_simp; try (with_reducible rfl))
                  try simp only [Act.put, List.setIfInBounds_toArray, List.set_cons_zero, List.set_cons_succ]
                  refine take_list (i := 16) (v := ?_) rfl (by kernel_rfl) (by kernel_rfl) (by kernel_rfl) (fun _ _ _ h => h) (Or.inl ⟨by rfl, ?_⟩) (by assumption) ?_
                  rotate_left
                  · (intro w hSw; (try dsimp only at hSw); go_simp; try (with_reducible rfl))
                  try simp only [Act.put, List.setIfInBounds_toArray, List.set_cons_zero, List.set_cons_succ]
                  refine take_list (i := 17) (v := ?_) rfl (by kernel_rfl) (by kernel_rfl) (by kernel_rfl) (fun _ _ _ h => h) (Or.inl ⟨by rfl, ?_⟩) (by assumption) ?_
                  rotate_left
                  · (intro w hSw; (try dsimp only at hSw); go_simp; try (with_reducible rfl))
                  try simp only [Act.put, List.setIfInBounds_toArray, List.set_cons_zero, List.set_cons_succ]
                  refine take_list (i := 18) (v := ?_) rfl (by kernel_rfl) (by kernel_rfl) (by kernel_rfl) (fun _ _ _ h => h) (Or.inl ⟨by rfl, ?_⟩) (by assumption) ?_
                  rotate_left
                  · (intro w hSw; (try dsimp only at hSw); go_simp; try (with_reducible rfl))
                  try simp only [Act.put, List.setIfInBounds_toArray, List.set_cons_zero, List.set_cons_succ]
                  refine take_list (i := 19) (v := ?_) rfl (by kernel_rfl) (by kernel_rfl) (by kernel_rfl) (fun _ _ _ h => h) (Or.inl ⟨by rfl, ?_⟩) (by assumption) ?_
                  rotate_left
                  · (intro w hSw; (try dsimp only at hSw); go_simp; try (with_reducible rfl))
                  try simp only [Act.put, List.setIfInBounds_toArray, List.set_cons_zero, List.set_cons_succ]
                  refine take_list (i := 20) (v := ?_) rfl (by kernel_rfl) (by kernel_rfl) (by kernel_rfl) (fun _ _ _ h => h) (Or.inl ⟨by rfl, ?_⟩) (by assumption) ?_
                  rotate_left
                  · (intro w hSw; (try dsimp only at hSw); go_simp; try (with_reducible rfl))
                  try simp only [Act.put, List.setIfInBounds_toArray, List.set_cons_zero, List.set_cons_succ]
                  refine take_list (i := 21) (v := ?_) rfl (by kernel_rfl) (by kernel_rfl) (by kernel_rfl) (fun _ _ _ h => h) (Or.inl ⟨by rfl, ?_⟩) (by assumption) ?_
                  rotate_left
                  · (intro w hSw; (try dsimp only at hSw); go_simp; try (with_reducible rfl))
                  try simp only [Act.put, List.setIfInBounds_toArray, List.set_cons_zero, List.set_cons_succ]
                  refine take_list (i := 22) (v := ?_) rfl (by kernel_rfl) (by kernel_rfl) (by kernel_rfl) (fun _ _ _ h => h) (Or.inl ⟨by rfl, ?_⟩) (by assumption) ?_
                  rotate_left
                  · (intro w hSw; (try dsimp only at hSw); go_simp; try (with_reducible rfl))
                  try simp only [Act.put, List.setIfInBounds_toArray, List.set_cons_zero, List.set_cons_succ]
                  refine take_list (i := 23) (v := ?_) rfl (by kernel_rfl) (by kernel_rfl) (by kernel_rfl) (fun _ _ _ h => h) (Or.inl ⟨by rfl, ?_⟩) (by assumption) ?_
                  rotate_left
                  · (intro w hSw; (try dsimp only at hSw); go_simp; try (with_reducible rfl))
                  try simp only [Act.put, List.setIfInBounds_toArray, List.set_cons_zero, List.set_cons_succ]
                  refine take_list (i := 24) (v := ?_) rfl (by kernel_rfl) (by kernel_rfl) (by kernel_rfl) (fun _ _ _ h => h) (Or.inl ⟨by rfl, ?_⟩) (by assumption) ?_
                  rotate_left
                  · (intro w hSw; (try dsimp only at hSw); go_simp; try (with_reducible rfl))
                  try simp only [Act.put, List.setIfInBounds_toArray, List.set_cons_zero, List.set_cons_succ]
                  refine wpAnyH_done (by kernel_rfl) ?_ _
                  clear hHeld1
                  go_wp2
                  go_ret
                  exact ⟨ret_bool HF.out.symm, AXD.out.below⟩
            · have hp : placeB o p.nodes.length = false := by simpa using hp
              have CP : Hid (∀ wy, Calls Tryz.prog 69 #[.int .i64 o, .int .i64 (p.nodes.length : Int)] wy fun e w' => e = .returned (.bool false) ∧ wy = w') := Lib.hid (fun wy => (rplace_any o p.nodes.length wy).mono fun e w' ⟨h1, h2⟩ => ⟨by rw [h1, hp], h2⟩)
              have HO := Lib.hid (show okAt os p.nodes.length k = false from by simp [okAt, ho, hp])
              have HF := Lib.hid (HBAD.out (by rw [HDB.out, all_range_false hkl HO.out]; rfl))
              have HS := Lib.hid (show ∀ wy, wy = wr.drew → (wy.cell? ⟨w.heap.size, 0, none⟩ = some (.int .i64 p.proto) ∧ wy.cell? ⟨w.heap.size, 1, none⟩ = some (.int .i64 p.cap) ∧ wy.cell? ⟨w.heap.size, 2, none⟩ = some (.int .i64 p.k) ∧ wy.cell? ⟨w.heap.size, 3, none⟩ = some (.slice h.an p.nodes.length h.cn) ∧ wy.cell? ⟨w.heap.size, 4, none⟩ = some (.slice h.al p.links.length h.cl) ∧ wy.cell? ⟨w.heap.size, 5, none⟩ = some (.slice h.ad p.dests.length h.cd) ∧ wy.cell? ⟨w.heap.size, 6, none⟩ = some (.slice h.ac p.checks.length h.cc)) ∧ wy.cell? ⟨b, off + k, none⟩ = some (.int .i64 o) from fun wy e => by subst e; exact ⟨AXD.out.all, hcd⟩)
              clear hp ho hc hrd2 hq hA2 hqd hcd
              go_upto_region 10 with fail
              refine wp_region_held_drew (S := (fun wy => (wy.cell? ⟨w.heap.size, 0, none⟩ = some (.int .i64 p.proto) ∧ wy.cell? ⟨w.heap.size, 1, none⟩ = some (.int .i64 p.cap) ∧ wy.cell? ⟨w.heap.size, 2, none⟩ = some (.int .i64 p.k) ∧ wy.cell? ⟨w.heap.size, 3, none⟩ = some (.slice h.an p.nodes.length h.cn) ∧ wy.cell? ⟨w.heap.size, 4, none⟩ = some (.slice h.al p.links.length h.cl) ∧ wy.cell? ⟨w.heap.size, 5, none⟩ = some (.slice h.ad p.dests.length h.cd) ∧ wy.cell? ⟨w.heap.size, 6, none⟩ = some (.slice h.ac p.checks.length h.cc)) ∧ wy.cell? ⟨b, off + k, none⟩ = some (.int .i64 o))) (by kernel_rfl) (HS.out _ rfl) (fun hHeld0 => ?_)
              refine take_list (i := 0) (v := ?_) rfl (by kernel_rfl) (by kernel_rfl) (by kernel_rfl) (fun _ _ _ h => h) (Or.inl ⟨by rfl, ?_⟩) (by assumption) ?_
              rotate_left
              · (intro w hSw; (try dsimp only at hSw); go_simp; try (with_reducible rfl))
              try simp only [Act.put, List.setIfInBounds_toArray, List.set_cons_zero, List.set_cons_succ]
              refine take_list (i := 1) (v := ?_) rfl (by kernel_rfl) (by kernel_rfl) (by kernel_rfl) (fun _ _ _ h => h) (Or.inl ⟨by rfl, ?_⟩) (by assumption) ?_
              rotate_left
              · (intro w hSw; (try dsimp only at hSw); go_simp; try (with_reducible rfl))
              try simp only [Act.put, List.setIfInBounds_toArray, List.set_cons_zero, List.set_cons_succ]
              refine take_list (i := 2) (v := ?_) rfl (by kernel_rfl) (by kernel_rfl) (by kernel_rfl) (fun _ _ _ h => h) (Or.inl ⟨by rfl, ?_⟩) (by assumption) ?_
              rotate_left
              · (intro w hSw; (try dsimp only at hSw); go_simp; try (with_reducible rfl))
              try simp only [Act.put, List.setIfInBounds_toArray, List.set_cons_zero, List.set_cons_succ]
              refine take_list (i := 3) (v := ?_) rfl (by kernel_rfl) (by kernel_rfl) (by kernel_rfl) (fun _ _ _ h => h) (Or.inl ⟨by rfl, ?_⟩) (by assumption) ?_
              rotate_left
              · (intro w hSw; (try dsimp only at hSw); go_simp; try (with_reducible rfl))
              try simp only [Act.put, List.setIfInBounds_toArray, List.set_cons_zero, List.set_cons_succ]
              refine take_list (i := 4) (v := ?_) rfl (by kernel_rfl) (by kernel_rfl) (by kernel_rfl) (fun _ _ _ h => h) (Or.inl ⟨by rfl, ?_⟩) (by assumption) ?_
              rotate_left
              · (intro w hSw; (try dsimp only at hSw); go_simp; try (with_reducible rfl))
              try simp only [Act.put, List.setIfInBounds_toArray, List.set_cons_zero, List.set_cons_succ]
              refine take_list (i := 5) (v := ?_) rfl (by kernel_rfl) (by kernel_rfl) (by kernel_rfl) (fun _ _ _ h => h) (Or.inl ⟨by rfl, ?_⟩) (by assumption) ?_
              rotate_left
              · (intro w hSw; (try dsimp only at hSw); go_simp; try (with_reducible rfl))
              try simp only [Act.put, List.setIfInBounds_toArray, List.set_cons_zero, List.set_cons_succ]
              refine take_list (i := 6) (v := ?_) rfl (by kernel_rfl) (by kernel_rfl) (by kernel_rfl) (fun _ _ _ h => h) (Or.inl ⟨by rfl, ?_⟩) (by assumption) ?_
              rotate_left
              · (intro w hSw; (try dsimp only at hSw); go_simp; try (with_reducible rfl))
              try simp only [Act.put, List.setIfInBounds_toArray, List.set_cons_zero, List.set_cons_succ]
              refine wpAnyH_ready (rs := [7]) (by kernel_rfl) (by simp) ?_
              refine cons_list rfl (fun K hK => ?_) AllReadyH.nil
              go_simp
              (go_at_call 69; refine (CP.out _).mono ?_; rintro e wm ⟨rfl, rfl⟩)
              refine hK.out _ _ (HS.out _ rfl) (fun hHeld1 => ?_)
              clear hK K hHeld0
              try simp only [Act.put, List.setIfInBounds_toArray, List.set_cons_zero, List.set_cons_succ]
              refine take_list (i := 8) (v := ?_) rfl (by kernel_rfl) (by kernel_rfl) (by kernel_rfl) (fun _ _ _ h => h) (Or.inl ⟨by rfl, ?_⟩) (by assumption) ?_
              rotate_left
              · (intro w hSw; (try dsimp only at hSw); go_simp; try (with_reducible rfl))
              try simp only [Act.put, List.setIfInBounds_toArray, List.set_cons_zero, List.set_cons_succ]
              refine take_list (i := 9) (v := ?_) rfl (by kernel_rfl) (by kernel_rfl) (by kernel_rfl) (fun _ _ _ h => h) (Or.inl ⟨by rfl, ?_⟩) (by assumption) ?_
              rotate_left
              · (intro w hSw; (try dsimp only at hSw); go_simp; try (with_reducible rfl))
              try simp only [Act.put, List.setIfInBounds_toArray, List.set_cons_zero, List.set_cons_succ]
              refine take_list (i := 10) (v := undef) rfl (by kernel_rfl) (by kernel_rfl) (by kernel_rfl) (fun _ _ _ h => h) (Or.inr ⟨by rfl, rfl⟩) (by assumption) ?_
              try simp only [Act.put, List.setIfInBounds_toArray, List.set_cons_zero, List.set_cons_succ]
              refine take_list (i := 11) (v := undef) rfl (by kernel_rfl) (by kernel_rfl) (by kernel_rfl) (fun _ _ _ h => h) (Or.inr ⟨by rfl, rfl⟩) (by assumption) ?_
              try simp only [Act.put, List.setIfInBounds_toArray, List.set_cons_zero, List.set_cons_succ]
              refine take_list (i := 12) (v := undef) rfl (by kernel_rfl) (by kernel_rfl) (by kernel_rfl) (fun _ _ _ h => h) (Or.inr ⟨by rfl, rfl⟩) (by assumption) ?_
              try simp only [Act.put, List.setIfInBounds_toArray, List.set_cons_zero, List.set_cons_succ]
              refine take_list (i := 13) (v := undef) rfl (by kernel_rfl) (by kernel_rfl) (by kernel_rfl) (fun _ _ _ h => h) (Or.inr ⟨by rfl, rfl⟩) (by assumption) ?_
              try simp only [Act.put, List.setIfInBounds_toArray, List.set_cons_zero, List.set_cons_succ]
              refine take_list (i := 14) (v := undef) rfl (by kernel_rfl) (by kernel_rfl) (by kernel_rfl) (fun _ _ _ h => h) (Or.inr ⟨by rfl, rfl⟩) (by assumption) ?_
              try simp only [Act.put, List.setIfInBounds_toArray, List.set_cons_zero, List.set_cons_succ]
              refine take_list (i := 15) (v := undef) rfl (by kernel_rfl) (by kernel_rfl) (by kernel_rfl) (fun _ _ _ h => h) (Or.inr ⟨by rfl, rfl⟩) (by assumption) ?_
              try simp only [Act.put, List.setIfInBounds_toArray, List.set_cons_zero, List.set_cons_succ]
              refine take_list (i := 16) (v := undef) rfl (by kernel_rfl) (by kernel_rfl) (by kernel_rfl) (fun _ _ _ h => h) (Or.inr ⟨by rfl, rfl⟩) (by assumption) ?_
              try simp only [Act.put, List.setIfInBounds_toArray, List.set_cons_zero, List.set_cons_succ]
              refine take_list (i := 17) (v := undef) rfl (by kernel_rfl) (by kernel_rfl) (by kernel_rfl) (fun _ _ _ h => h) (Or.inr ⟨by rfl, rfl⟩) (by assumption) ?_
              try simp only [Act.put, List.setIfInBounds_toArray, List.set_cons_zero, List.set_cons_succ]
              refine take_list (i := 18) (v := undef) rfl (by kernel_rfl) (by kernel_rfl) (by kernel_rfl) (fun _ _ _ h => h) (Or.inr ⟨by rfl, rfl⟩) (by assumption) ?_
              try simp only [Act.put, List.setIfInBounds_toArray, List.set_cons_zero, List.set_cons_succ]
              refine take_list (i := 19) (v := undef) rfl (by kernel_rfl) (by kernel_rfl) (by kernel_rfl) (fun _ _ _ h => h) (Or.inr ⟨by rfl, rfl⟩) (by assumption) ?_
              try simp only [Act.put, List.setIfInBounds_toArray, List.set_cons_zero, List.set_cons_succ]
              refine take_list (i := 20) (v := undef) rfl (by kernel_rfl) (by kernel_rfl) (by kernel_rfl) (fun _ _ _ h => h) (Or.inr ⟨by rfl, rfl⟩) (by assumption) ?_
              try simp only [Act.put, List.setIfInBounds_toArray, List.set_cons_zero, List.set_cons_succ]
              refine take_list (i := 21) (v := undef) rfl (by kernel_rfl) (by kernel_rfl) (by kernel_rfl) (fun _ _ _ h => h) (Or.inr ⟨by rfl, rfl⟩) (by assumption) ?_
              try simp only [Act.put, List.setIfInBounds_toArray, List.set_cons_zero, List.set_cons_succ]
              refine take_list (i := 22) (v := undef) rfl (by kernel_rfl) (by kernel_rfl) (by kernel_rfl) (fun _ _ _ h => h) (Or.inr ⟨by rfl, rfl⟩) (by assumption) ?_
              try simp only [Act.put, List.setIfInBounds_toArray, List.set_cons_zero, List.set_cons_succ]
              refine take_list (i := 23) (v := undef) rfl (by kernel_rfl) (by kernel_rfl) (by kernel_rfl) (fun _ _ _ h => h) (Or.inr ⟨by rfl, rfl⟩) (by assumption) ?_
              try simp only [Act.put, List.setIfInBounds_toArray, List.set_cons_zero, List.set_cons_succ]
              refine take_list (i := 24) (v := ?_) rfl (by kernel_rfl) (by kernel_rfl) (by kernel_rfl) (fun _ _ _ h => h) (Or.inl ⟨by rfl, ?_⟩) (by assumption) ?_
              rotate_left
              · (intro w hSw; (try dsimp only at hSw); go_simp; try (with_reducible rfl))
              try simp only [Act.put, List.setIfInBounds_toArray, List.set_cons_zero, List.set_cons_succ]
              refine wpAnyH_done (by kernel_rfl) ?_ _
              clear hHeld1
              go_wp2
              go_ret
              exact ⟨ret_bool HF.out.symm, AXD.out.below⟩
          · have hkl' : k = os.length := by omega
            have HO := Lib.hid (show destB z.1 p.nodes.length = true from by
              rw [HDB.out, ← hkl', HOK.out]; simp; omega)
            clear hkl' hq hrd2 hA2 hqd
            go_wp2
            go_roundw
            case rel => exact ⟨i + 1, by omega, by go_num, by rw [HT.out, List.all_append, HALL.out]; simp [HO.out], AX2.out⟩
            case measure => simp [intOf]; omega
    · have HF := Lib.hid (show p.dests.all (fun d => destB d p.nodes.length) = true from by
        have := HALL.out
        rwa [List.take_of_length_le (by omega)] at this)
      clear hA
      by_cases h4 : p.dests.length ≤ 4
      · have h4' : (p.dests.length : Int) ≤ 4 := by omega
        have HG := Lib.hid (show destsB p = true from by unfold destsB; rw [HF.out]; simp [h4])
        clear h4
        go_wp2
        go_ret
        exact ⟨ret_bool (by rw [HG.out]), AX.out.below⟩
      · have h4' : ¬ (p.dests.length : Int) ≤ 4 := by omega
        have HG := Lib.hid (show destsB p = false from by unfold destsB; simp [h4])
        clear h4
        go_wp2
        go_ret
        exact ⟨ret_bool (by rw [HG.out]), AX.out.below⟩
end

section
/-- Checks that may be. -/
def checksB (p : Net) : Bool := p.checks.all (checkB p) && decide (p.checks.length ≤ 16)
attribute [local go_sem ↓] Go.wp_at_zero Go.wp_at_succ
set_option maxRecDepth 100000 in
set_option maxHeartbeats 4000000 in
theorem rchecks_any (p : Net) (h : Hd) (w : World) (hp : NetR w w.heap.size p h) (hs : Small p) :
    Calls Tryz.prog 43 #[netV p h] w fun e w' => e = .returned (.bool (checksB p)) ∧ Below w.heap.size w w' := by
  have PX : Hid (AtRight w p h (w.alloc (.cells #[.int .i64 p.proto, .int .i64 p.cap, .int .i64 p.k, .slice h.an p.nodes.length h.cn, .slice h.al p.links.length h.cl, .slice h.ad p.dests.length h.cd, .slice h.ac p.checks.length h.cc] 30))) := Lib.hid (AtRight.begin hp)
  have hd1 := hs.checks
  have hnn := hs.nodes
  have HSm := Lib.hid hs
  clear hp hs
  unfold netV netVal
  go_enter Tryz.func43, Tryz.ntmps43
  go_wp2_with fail
  generalize w.alloc (.cells #[.int .i64 p.proto, .int .i64 p.cap, .int .i64 p.k, .slice h.an p.nodes.length h.cn, .slice h.al p.links.length h.cl, .slice h.ad p.dests.length h.cd, .slice h.ac p.checks.length h.cc] 30) = w1 at *
  go_loopw [3] (fun si wx => ∃ i : Nat, i ≤ p.checks.length ∧ si = .int .i64 i ∧ (p.checks.take i).all (checkB p) = true ∧ AtRight w p h wx) (fun si _ => p.checks.length - (intOf si).toNat)
  case atStart => exact ⟨0, Nat.zero_le _, rfl, by simp, PX.out⟩
  case round =>
    obtain ⟨i, hi, rfl, hall, hA⟩ := hrel
    have HALL := Lib.hid hall
    have AX := Lib.hid hA
    obtain ⟨c0, c1, c2, c3, c4, c5, c6⟩ := hA.all
    clear hall
    by_cases hlt : i < p.checks.length
    · obtain ⟨z, hz⟩ : ∃ z, p.checks[i]? = some z := ⟨_, List.getElem?_eq_getElem hlt⟩
      obtain ⟨bc, oc, ec, hbc, k0, k1, k2, k3, k4⟩ := hA.net.checks.check hz
      rw [ec] at c6
      have hts : p.checks.take (i + 1) = p.checks.take i ++ [z] := by rw [List.take_add_one, hz]; rfl
      have HT := Lib.hid hts
      have HZm := Lib.hid (List.mem_of_getElem? hz)
      have HBAD : Hid (checkB p z = false → checksB p = false) := Lib.hid (fun e => by
        unfold checksB
        have : p.checks.all (checkB p) = false := List.all_eq_false.2 ⟨_, HZm.out, by simp [e]⟩
        rw [this]; rfl)
      have hi0 : (0 : Int) ≤ (i : Int) := by omega
      obtain ⟨kind, node, dest, limit, other⟩ := z
      clear hz ec hts hA
      go_upto_region 5 with fail
      have A2 : AtRight w p h (wr.alloc (.cells #[.int .i64 kind, .int .i64 node, .int .i64 dest, .int .i64 limit, .int .i64 other] 62)) := AX.out.call ((Below.refl _ _).alloc (Nat.le_refl _) _)
      have NC : ∀ i, (wr.alloc (.cells #[.int .i64 kind, .int .i64 node, .int .i64 dest, .int .i64 limit, .int .i64 other] 62)).cell? ⟨wr.heap.size, i, none⟩ = (#[Value.int .i64 kind, .int .i64 node, .int .i64 dest, .int .i64 limit, .int .i64 other])[i]? := fun i => World.cell?_alloc_new ..
      generalize wr.alloc (.cells #[.int .i64 kind, .int .i64 node, .int .i64 dest, .int .i64 limit, .int .i64 other] 62) = w2 at *
      have n0 : w2.cell? ⟨wr.heap.size, 0, none⟩ = some (.int .i64 kind) := NC 0
      have n1 : w2.cell? ⟨wr.heap.size, 1, none⟩ = some (.int .i64 node) := NC 1
      have n2 : w2.cell? ⟨wr.heap.size, 2, none⟩ = some (.int .i64 dest) := NC 2
      have n3 : w2.cell? ⟨wr.heap.size, 3, none⟩ = some (.int .i64 limit) := NC 3
      have n4 : w2.cell? ⟨wr.heap.size, 4, none⟩ = some (.int .i64 other) := NC 4
      clear c0 c1 c2 c3 c4 c5 c6 k0 k1 k2 k3 k4 hbc NC
      obtain ⟨-, -, -, c3, -, c5, -⟩ := A2.all
      have AX2 := Lib.hid A2
      clear A2
      have HB := Lib.hid AX2.out.below
      have BODY : Hid (checkB p ⟨kind, node, dest, limit, other⟩ = (kindB ⟨kind, node, dest, limit, other⟩ && (placeB node p.nodes.length && placeB dest p.dests.length && withinB limit 0 (limitOf ⟨kind, node, dest, limit, other⟩) && placeB other (othersOf p ⟨kind, node, dest, limit, other⟩)))) := Lib.hid rfl
      by_cases hCN : placeB node p.nodes.length = true
      · skip
        by_cases hCD : placeB dest p.dests.length = true
        · skip
          by_cases hk1 : kind < 1
          · have hk1' : decide (kind < 1) = true := decide_eq_true hk1
            have HF := Lib.hid (HBAD.out (by rw [Bool.eq_false_iff]; intro hc; rw [BODY.out] at hc; simp [kindB, limitOf, othersOf, withinB, placeB] at hc <;> omega))
            clear hk1
            go_wp2_with (go_at_call 69; refine (rplace_any _ _ _).mono ?_; rintro e wm ⟨rfl, rfl⟩)
            go_ret
            exact ⟨ret_bool HF.out.symm, HB.out⟩
          · have hk1' : decide (kind < 1) = false := decide_eq_false hk1
            by_cases hk4 : 4 < kind
            · have hk4' : decide (4 < kind) = true := decide_eq_true hk4
              have HF := Lib.hid (HBAD.out (by rw [Bool.eq_false_iff]; intro hc; rw [BODY.out] at hc; simp [kindB, limitOf, othersOf, withinB, placeB] at hc <;> omega))
              clear hk1 hk4
              go_wp2_with (go_at_call 69; refine (rplace_any _ _ _).mono ?_; rintro e wm ⟨rfl, rfl⟩)
              go_ret
              exact ⟨ret_bool HF.out.symm, HB.out⟩
            · clear hk1'
              have hkk : kind = 1 ∨ kind = 2 ∨ kind = 3 ∨ kind = 4 := by omega
              clear hk1 hk4
              rcases hkk with rfl | rfl | rfl | rfl
              · by_cases hl : limit = 0
                · have hl0 : (limit == 0) = true := by simp [hl]
                  by_cases ho : other = 0
                  · have ho0 : (other == 0) = true := by simp [ho]
                    have HO := Lib.hid (show checkB p ⟨1, node, dest, limit, other⟩ = true from by rw [BODY.out, hCN, hCD]; simp [kindB, limitOf, othersOf, withinB, placeB] <;> omega)
                    clear hl ho
                    go_wp2_with (go_at_call 69; refine (rplace_any _ _ _).mono ?_; rintro e wm ⟨rfl, rfl⟩)
                    go_roundw
                    case rel => exact ⟨i + 1, by omega, by go_num, by rw [HT.out, List.all_append, HALL.out]; simp [HO.out], AX2.out⟩
                    case measure => simp [intOf]; omega
                  · have ho0 : (other == 0) = false := by simp [ho]
                    have HF := Lib.hid (HBAD.out (by rw [Bool.eq_false_iff]; intro hc; rw [BODY.out] at hc; simp [kindB, limitOf, othersOf, withinB, placeB] at hc <;> omega))
                    clear hl ho
                    go_wp2_with (go_at_call 69; refine (rplace_any _ _ _).mono ?_; rintro e wm ⟨rfl, rfl⟩)
                    go_ret
                    exact ⟨ret_bool HF.out.symm, HB.out⟩
                · have hl0 : (limit == 0) = false := by simp [hl]
                  have HF := Lib.hid (HBAD.out (by rw [Bool.eq_false_iff]; intro hc; rw [BODY.out] at hc; simp [kindB, limitOf, othersOf, withinB, placeB] at hc <;> omega))
                  clear hl
                  go_wp2_with (go_at_call 69; refine (rplace_any _ _ _).mono ?_; rintro e wm ⟨rfl, rfl⟩)
                  go_ret
                  exact ⟨ret_bool HF.out.symm, HB.out⟩
              · by_cases hl : 0 ≤ limit
                · have hl0 : decide (0 ≤ limit) = true := decide_eq_true hl
                  by_cases hm : limit ≤ 65535
                  · have hm0 : decide (limit ≤ 65535) = true := decide_eq_true hm
                    by_cases ho : other = 0
                    · have ho0 : (other == 0) = true := by simp [ho]
                      have HO := Lib.hid (show checkB p ⟨2, node, dest, limit, other⟩ = true from by rw [BODY.out, hCN, hCD]; simp [kindB, limitOf, othersOf, withinB, placeB] <;> omega)
                      clear hl hm ho
                      go_wp2_with (go_at_call 69; refine (rplace_any _ _ _).mono ?_; rintro e wm ⟨rfl, rfl⟩)
                      go_roundw
                      case rel => exact ⟨i + 1, by omega, by go_num, by rw [HT.out, List.all_append, HALL.out]; simp [HO.out], AX2.out⟩
                      case measure => simp [intOf]; omega
                    · have ho0 : (other == 0) = false := by simp [ho]
                      have HF := Lib.hid (HBAD.out (by rw [Bool.eq_false_iff]; intro hc; rw [BODY.out] at hc; simp [kindB, limitOf, othersOf, withinB, placeB] at hc <;> omega))
                      clear hl hm ho
                      go_wp2_with (go_at_call 69; refine (rplace_any _ _ _).mono ?_; rintro e wm ⟨rfl, rfl⟩)
                      go_ret
                      exact ⟨ret_bool HF.out.symm, HB.out⟩
                  · have hm0 : decide (limit ≤ 65535) = false := decide_eq_false hm
                    have HF := Lib.hid (HBAD.out (by rw [Bool.eq_false_iff]; intro hc; rw [BODY.out] at hc; simp [kindB, limitOf, othersOf, withinB, placeB] at hc <;> omega))
                    clear hl hm
                    go_wp2_with (go_at_call 69; refine (rplace_any _ _ _).mono ?_; rintro e wm ⟨rfl, rfl⟩)
                    go_ret
                    exact ⟨ret_bool HF.out.symm, HB.out⟩
                · have hl0 : decide (0 ≤ limit) = false := decide_eq_false hl
                  have HF := Lib.hid (HBAD.out (by rw [Bool.eq_false_iff]; intro hc; rw [BODY.out] at hc; simp [kindB, limitOf, othersOf, withinB, placeB] at hc <;> omega))
                  clear hl
                  go_wp2_with (go_at_call 69; refine (rplace_any _ _ _).mono ?_; rintro e wm ⟨rfl, rfl⟩)
                  go_ret
                  exact ⟨ret_bool HF.out.symm, HB.out⟩
              · by_cases hCO : placeB other p.nodes.length = true
                · skip
                  have hop : 0 ≤ other ∧ other < p.nodes.length := by simpa [placeB] using hCO
                  by_cases hl : limit = 0
                  · have hl0 : (limit == 0) = true := by simp [hl]
                    have HO := Lib.hid (show checkB p ⟨3, node, dest, limit, other⟩ = true from by rw [BODY.out, hCN, hCD]; simp [kindB, limitOf, othersOf, withinB, placeB] <;> omega)
                    clear hl hop
                    go_wp2_with (go_at_call 69; refine (rplace_any _ _ _).mono ?_; rintro e wm ⟨rfl, rfl⟩)
                    go_roundw
                    case rel => exact ⟨i + 1, by omega, by go_num, by rw [HT.out, List.all_append, HALL.out]; simp [HO.out], AX2.out⟩
                    case measure => simp [intOf]; omega
                  · have hl0 : (limit == 0) = false := by simp [hl]
                    have HF := Lib.hid (HBAD.out (by rw [Bool.eq_false_iff]; intro hc; rw [BODY.out] at hc; simp [kindB, limitOf, othersOf, withinB, placeB] at hc <;> omega))
                    clear hl hop
                    go_wp2_with (go_at_call 69; refine (rplace_any _ _ _).mono ?_; rintro e wm ⟨rfl, rfl⟩)
                    go_ret
                    exact ⟨ret_bool HF.out.symm, HB.out⟩
                · have hop : ¬ (0 ≤ other ∧ other < p.nodes.length) := by simpa [placeB] using hCO
                  have hCO : placeB other p.nodes.length = false := by simpa using hCO
                  by_cases hl : limit = 0
                  · have hl0 : (limit == 0) = true := by simp [hl]
                    have HF := Lib.hid (HBAD.out (by rw [Bool.eq_false_iff]; intro hc; rw [BODY.out] at hc; simp [kindB, limitOf, othersOf, withinB, placeB] at hc <;> omega))
                    clear hl hop
                    go_wp2_with (go_at_call 69; refine (rplace_any _ _ _).mono ?_; rintro e wm ⟨rfl, rfl⟩)
                    go_ret
                    exact ⟨ret_bool HF.out.symm, HB.out⟩
                  · have hl0 : (limit == 0) = false := by simp [hl]
                    have HF := Lib.hid (HBAD.out (by rw [Bool.eq_false_iff]; intro hc; rw [BODY.out] at hc; simp [kindB, limitOf, othersOf, withinB, placeB] at hc <;> omega))
                    clear hl hop
                    go_wp2_with (go_at_call 69; refine (rplace_any _ _ _).mono ?_; rintro e wm ⟨rfl, rfl⟩)
                    go_ret
                    exact ⟨ret_bool HF.out.symm, HB.out⟩
              · by_cases hCO : placeB other p.nodes.length = true
                · skip
                  have hop : 0 ≤ other ∧ other < p.nodes.length := by simpa [placeB] using hCO
                  by_cases hl : limit = 0
                  · have hl0 : (limit == 0) = true := by simp [hl]
                    have HO := Lib.hid (show checkB p ⟨4, node, dest, limit, other⟩ = true from by rw [BODY.out, hCN, hCD]; simp [kindB, limitOf, othersOf, withinB, placeB] <;> omega)
                    clear hl hop
                    go_wp2_with (go_at_call 69; refine (rplace_any _ _ _).mono ?_; rintro e wm ⟨rfl, rfl⟩)
                    go_roundw
                    case rel => exact ⟨i + 1, by omega, by go_num, by rw [HT.out, List.all_append, HALL.out]; simp [HO.out], AX2.out⟩
                    case measure => simp [intOf]; omega
                  · have hl0 : (limit == 0) = false := by simp [hl]
                    have HF := Lib.hid (HBAD.out (by rw [Bool.eq_false_iff]; intro hc; rw [BODY.out] at hc; simp [kindB, limitOf, othersOf, withinB, placeB] at hc <;> omega))
                    clear hl hop
                    go_wp2_with (go_at_call 69; refine (rplace_any _ _ _).mono ?_; rintro e wm ⟨rfl, rfl⟩)
                    go_ret
                    exact ⟨ret_bool HF.out.symm, HB.out⟩
                · have hop : ¬ (0 ≤ other ∧ other < p.nodes.length) := by simpa [placeB] using hCO
                  have hCO : placeB other p.nodes.length = false := by simpa using hCO
                  by_cases hl : limit = 0
                  · have hl0 : (limit == 0) = true := by simp [hl]
                    have HF := Lib.hid (HBAD.out (by rw [Bool.eq_false_iff]; intro hc; rw [BODY.out] at hc; simp [kindB, limitOf, othersOf, withinB, placeB] at hc <;> omega))
                    clear hl hop
                    go_wp2_with (go_at_call 69; refine (rplace_any _ _ _).mono ?_; rintro e wm ⟨rfl, rfl⟩)
                    go_ret
                    exact ⟨ret_bool HF.out.symm, HB.out⟩
                  · have hl0 : (limit == 0) = false := by simp [hl]
                    have HF := Lib.hid (HBAD.out (by rw [Bool.eq_false_iff]; intro hc; rw [BODY.out] at hc; simp [kindB, limitOf, othersOf, withinB, placeB] at hc <;> omega))
                    clear hl hop
                    go_wp2_with (go_at_call 69; refine (rplace_any _ _ _).mono ?_; rintro e wm ⟨rfl, rfl⟩)
                    go_ret
                    exact ⟨ret_bool HF.out.symm, HB.out⟩
        · have hCD : placeB dest p.dests.length = false := by simpa using hCD
          have HF := Lib.hid (HBAD.out (by rw [BODY.out, hCD]; simp))
          skip
          go_wp2_with (go_at_call 69; refine (rplace_any _ _ _).mono ?_; rintro e wm ⟨rfl, rfl⟩)
          go_ret
          exact ⟨ret_bool HF.out.symm, HB.out⟩
      · have hCN : placeB node p.nodes.length = false := by simpa using hCN
        have HF := Lib.hid (HBAD.out (by rw [BODY.out, hCN]; simp))
        skip
        go_wp2_with (go_at_call 69; refine (rplace_any _ _ _).mono ?_; rintro e wm ⟨rfl, rfl⟩)
        go_ret
        exact ⟨ret_bool HF.out.symm, HB.out⟩
    · have HF := Lib.hid (show p.checks.all (checkB p) = true from by
        have := HALL.out
        rwa [List.take_of_length_le (by omega)] at this)
      clear hA
      by_cases h4 : p.checks.length ≤ 16
      · have h4' : (p.checks.length : Int) ≤ 16 := by omega
        have HG := Lib.hid (show checksB p = true from by unfold checksB; rw [HF.out]; simp [h4])
        clear h4
        go_wp2
        go_ret
        exact ⟨ret_bool (by rw [HG.out]), AX.out.below⟩
      · have h4' : ¬ (p.checks.length : Int) ≤ 16 := by omega
        have HG := Lib.hid (show checksB p = false from by unfold checksB; simp [h4])
        clear h4
        go_wp2
        go_ret
        exact ⟨ret_bool (by rw [HG.out]), AX.out.below⟩
end

section
theorem pairs_end {L : List Lk} {i : Nat} {x : Lk} (hx : L[i]? = some x) (hn : (pairsOf (L.take i)).Nodup) (hne : ∀ y ∈ L.take i, (y.a, y.b) ≠ (x.a, x.b)) : (pairsOf (L.take (i + 1))).Nodup := by
  have e : L.take (i + 1) = L.take i ++ [x] := by rw [List.take_add_one, hx]; rfl
  rw [e]
  unfold pairsOf at *
  rw [List.map_append, List.nodup_append]
  refine ⟨hn, by simp, ?_⟩
  intro u hu v hv
  obtain ⟨y, hy, rfl⟩ := List.mem_map.1 hu
  simp at hv
  subst hv
  exact hne y hy
theorem pairs_twice {L : List Lk} {i k : Nat} {x y : Lk} (hx : L[i]? = some x) (hy : L[k]? = some y) (hk : k < i) (e : (y.a, y.b) = (x.a, x.b)) : ¬ (pairsOf L).Nodup := by
  intro hn
  unfold pairsOf at hn
  have hi : i < L.length := (List.getElem?_eq_some_iff.1 hx).1
  have h1 : (L.map fun x => (x.a, x.b))[i]? = some (x.a, x.b) := by rw [List.getElem?_map, hx]; rfl
  have h2 : (L.map fun x => (x.a, x.b))[k]? = some (x.a, x.b) := by rw [List.getElem?_map, hy]; simp [e]
  have := (List.getElem?_inj (by simpa using (by omega : k < L.length)) hn).1 (h2.trans h1.symm)
  omega
attribute [local go_sem ↓] Go.wp_at_zero Go.wp_at_succ
set_option maxRecDepth 100000 in
set_option maxHeartbeats 4000000 in
theorem rlinks_any (p : Net) (h : Hd) (w : World) (hp : NetR w w.heap.size p h) (hs : Small p) :
    Calls Tryz.prog 41 #[netV p h] w fun e w' => e = .returned (.bool (linksB p)) ∧ Below w.heap.size w w' := by
  have PX : Hid (AtRight w p h (w.alloc (.cells #[.int .i64 p.proto, .int .i64 p.cap, .int .i64 p.k, .slice h.an p.nodes.length h.cn, .slice h.al p.links.length h.cl, .slice h.ad p.dests.length h.cd, .slice h.ac p.checks.length h.cc] 30))) := Lib.hid (AtRight.begin hp)
  have hd1 := hs.links
  have hnn := hs.nodes
  clear hp hs
  unfold netV netVal
  go_enter Tryz.func41, Tryz.ntmps41
  go_wp2_with fail
  generalize w.alloc (.cells #[.int .i64 p.proto, .int .i64 p.cap, .int .i64 p.k, .slice h.an p.nodes.length h.cn, .slice h.al p.links.length h.cl, .slice h.ad p.dests.length h.cd, .slice h.ac p.checks.length h.cc] 30) = w1 at *
  go_loopw [3] (fun si wx => ∃ i : Nat, i ≤ p.links.length ∧ si = .int .i64 i ∧ (p.links.take i).all (lkB p.nodes.length) = true ∧ (pairsOf (p.links.take i)).Nodup ∧ AtRight w p h wx) (fun si _ => p.links.length - (intOf si).toNat)
  case atStart => exact ⟨0, Nat.zero_le _, rfl, by simp, by simp [pairsOf], PX.out⟩
  case round =>
    obtain ⟨i, hi, rfl, hall, hnd, hA⟩ := hrel
    have HALL := Lib.hid hall
    have HND := Lib.hid hnd
    have AX := Lib.hid hA
    obtain ⟨c0, c1, c2, c3, c4, c5, c6⟩ := hA.all
    clear hall hnd
    by_cases hlt : i < p.links.length
    · obtain ⟨z, hz⟩ : ∃ z, p.links[i]? = some z := ⟨_, List.getElem?_eq_getElem hlt⟩
      obtain ⟨bc, oc, ec, hbc, k0, k1, k2⟩ := hA.net.links.link hz
      rw [ec] at c4
      have hts : p.links.take (i + 1) = p.links.take i ++ [z] := by rw [List.take_add_one, hz]; rfl
      have HT := Lib.hid hts
      have HZ := Lib.hid hz
      have HBAD : Hid (lkB p.nodes.length z = false → linksB p = false) := Lib.hid (fun e => by
        unfold linksB
        have : p.links.all (lkB p.nodes.length) = false := List.all_eq_false.2 ⟨_, List.mem_of_getElem? HZ.out, by simp [e]⟩
        rw [this]; rfl)
      have hi0 : (0 : Int) ≤ (i : Int) := by omega
      obtain ⟨a, b, cost⟩ := z
      have EC := Lib.hid ec
      clear hz ec hts hA
      go_upto_region 5 with fail
      have A2 : AtRight w p h (wr.alloc (.cells #[.int .i64 a, .int .i64 b, .int .i64 cost] 58)) := AX.out.call ((Below.refl _ _).alloc (Nat.le_refl _) _)
      have NC : ∀ i, (wr.alloc (.cells #[.int .i64 a, .int .i64 b, .int .i64 cost] 58)).cell? ⟨wr.heap.size, i, none⟩ = (#[Value.int .i64 a, .int .i64 b, .int .i64 cost])[i]? := fun i => World.cell?_alloc_new ..
      have NS : wr.heap.size < (wr.alloc (.cells #[.int .i64 a, .int .i64 b, .int .i64 cost] 58)).heap.size := by simp
      generalize wr.alloc (.cells #[.int .i64 a, .int .i64 b, .int .i64 cost] 58) = w2 at *
      have n0 : w2.cell? ⟨wr.heap.size, 0, none⟩ = some (.int .i64 a) := NC 0
      have n1 : w2.cell? ⟨wr.heap.size, 1, none⟩ = some (.int .i64 b) := NC 1
      have n2 : w2.cell? ⟨wr.heap.size, 2, none⟩ = some (.int .i64 cost) := NC 2
      clear c0 c1 c2 c3 c4 c5 c6 k0 k1 k2 hbc
      obtain ⟨-, -, -, c3, -, -, -⟩ := A2.all
      have AX2 := Lib.hid A2
      have HNC := Lib.hid NC
      have HNS := Lib.hid NS
      clear A2 NC NS
      generalize wr.heap.size = nb at *
      have HB := Lib.hid AX2.out.below
      have BODY : Hid (lkB p.nodes.length ⟨a, b, cost⟩ = (placeB a b && placeB b p.nodes.length && withinB cost 1 15)) := Lib.hid rfl
      by_cases hCA : placeB a p.nodes.length = true
      · by_cases hCB : placeB b p.nodes.length = true
        · have ha1 : 0 ≤ a ∧ a < p.nodes.length := by simpa [placeB] using hCA
          have hb1 : 0 ≤ b ∧ b < p.nodes.length := by simpa [placeB] using hCB
          have HA1 := Lib.hid ha1
          have HB1 := Lib.hid hb1
          clear ha1 hb1
          by_cases hab : b ≤ a
          · have hab' : decide (b ≤ a) = true := decide_eq_true hab
            have HF := Lib.hid (HBAD.out (by rw [Bool.eq_false_iff]; intro hc; rw [BODY.out] at hc; simp [placeB, withinB] at hc <;> omega))
            clear hab
            go_wp2_with (go_at_call 69; refine (rplace_any _ _ _).mono ?_; rintro e wm ⟨rfl, rfl⟩)
            go_ret
            exact ⟨ret_bool HF.out.symm, HB.out⟩
          · have hab' : decide (b ≤ a) = false := decide_eq_false hab
            by_cases hc1 : cost < 1
            · have hc1' : decide (cost < 1) = true := decide_eq_true hc1
              have HF := Lib.hid (HBAD.out (by rw [Bool.eq_false_iff]; intro hc; rw [BODY.out] at hc; simp [placeB, withinB] at hc <;> omega))
              clear hab hc1
              go_wp2_with (go_at_call 69; refine (rplace_any _ _ _).mono ?_; rintro e wm ⟨rfl, rfl⟩)
              go_ret
              exact ⟨ret_bool HF.out.symm, HB.out⟩
            · have hc1' : decide (cost < 1) = false := decide_eq_false hc1
              by_cases hc15 : 15 < cost
              · have hc15' : decide (15 < cost) = true := decide_eq_true hc15
                have HF := Lib.hid (HBAD.out (by rw [Bool.eq_false_iff]; intro hc; rw [BODY.out] at hc; simp [placeB, withinB] at hc <;> omega))
                clear hab hc1 hc15
                go_wp2_with (go_at_call 69; refine (rplace_any _ _ _).mono ?_; rintro e wm ⟨rfl, rfl⟩)
                go_ret
                exact ⟨ret_bool HF.out.symm, HB.out⟩
              · have hc15' : decide (15 < cost) = false := decide_eq_false hc15
                have HO := Lib.hid (show lkB p.nodes.length ⟨a, b, cost⟩ = true from by have := HA1.out; have := HB1.out; rw [BODY.out]; simp [placeB, withinB] <;> omega)
                clear hab hc1 hc15
                go_wp2_with (go_at_call 69; refine (rplace_any _ _ _).mono ?_; rintro e wm ⟨rfl, rfl⟩)
                clear hab' hc1' hc15' hCA hCB c3 n0 n1 n2
                obtain ⟨Q, hQ0, hQ⟩ : ∃ Q : World → Prop, Q w2 ∧ ∀ wy, Q wy → Q wy.drew ∧ AtRight w p h wy ∧ wy.cell? ⟨nb, 0, none⟩ = some (.int .i64 a) ∧ wy.cell? ⟨nb, 1, none⟩ = some (.int .i64 b) :=
                  ⟨fun wy => Below w2.heap.size w2 wy, Below.refl _ _, fun wy hb => ⟨below_drew hb, AX2.out.call hb, (hb.cell (p := ⟨nb, 0, none⟩) HNS.out).trans (HNC.out 0), (hb.cell (p := ⟨nb, 1, none⟩) HNS.out).trans (HNC.out 1)⟩⟩
                have HQ := Lib.hid hQ
                clear hQ
                go_loopw [5] (fun sk wx => ∃ k : Nat, k ≤ i ∧ sk = .int .i64 k ∧ (∀ y ∈ p.links.take k, (y.a, y.b) ≠ (a, b)) ∧ Q wx) (fun sk _ => i - (intOf sk).toNat)
                case atStart => exact ⟨0, Nat.zero_le _, rfl, by simp, hQ0⟩
                case round =>
                  obtain ⟨k, hk, rfl, hne, hq⟩ := hrel
                  have HNE := Lib.hid hne
                  have HQX := Lib.hid hq
                  obtain ⟨hqd, hA2, m0, m1⟩ := HQ.out _ hq
                  have AX3 := Lib.hid hA2
                  clear hne hQ0
                  by_cases hki : k < i
                  · obtain ⟨y, hy⟩ : ∃ y, p.links[k]? = some y := ⟨_, List.getElem?_eq_getElem (by omega)⟩
                    obtain ⟨bl, ol, el, hbl, l0, l1, -⟩ := hA2.net.links.link hy
                    obtain ⟨-, -, -, -, d4, -, -⟩ := hA2.all
                    rw [el] at d4
                    have HY := Lib.hid hy
                    have hk0 : (0 : Int) ≤ (k : Int) := by omega
                    have hkl : k < p.links.length := by omega
                    have hkl' : (k : Int) < (p.links.length : Int) := by omega
                    have HQD := Lib.hid hqd
                    have AXD := Lib.hid (hA2.call (below_drew (Below.refl _ _)))
                    have HTK : Hid (p.links.take (k + 1) = p.links.take k ++ [y]) := Lib.hid (by rw [List.take_add_one, hy]; rfl)
                    obtain ⟨ya, yb, yc⟩ := y
                    have HS := Lib.hid (show ∀ wy, wy = wr.drew → wy.cell? ⟨w.heap.size, 4, none⟩ = some (.slice (some ⟨bl, ol, none⟩) p.links.length h.cl) ∧ wy.cell? ⟨bl, ol + k * 3, none⟩ = some (.int .i64 ya) ∧ wy.cell? ⟨bl, ol + k * 3 + 1, none⟩ = some (.int .i64 yb) ∧ wy.cell? ⟨nb, 0, none⟩ = some (.int .i64 a) ∧ wy.cell? ⟨nb, 1, none⟩ = some (.int .i64 b) from fun wy e => by subst e; exact ⟨d4, l0, l1, m0, m1⟩)
                    clear hy el l0 l1 d4 m0 m1 hq hA2 hqd
                    by_cases hya : ya = a
                    · by_cases hyb : yb = b
                      · have q1 : (ya == a) = true := by simp [hya]
                        have q2 : (yb == b) = true := by simp [hyb]
                        have HF := Lib.hid (show linksB p = false from by unfold linksB; rw [decide_eq_false (pairs_twice HZ.out HY.out hki (by simp [hya, hyb]))]; simp)
                        clear hya hyb
                        go_upto_region 10 with fail
                        refine wp_region_held_drew (S := (fun wy => wy.cell? ⟨w.heap.size, 4, none⟩ = some (.slice (some ⟨bl, ol, none⟩) p.links.length h.cl) ∧ wy.cell? ⟨bl, ol + k * 3, none⟩ = some (.int .i64 ya) ∧ wy.cell? ⟨bl, ol + k * 3 + 1, none⟩ = some (.int .i64 yb) ∧ wy.cell? ⟨nb, 0, none⟩ = some (.int .i64 a) ∧ wy.cell? ⟨nb, 1, none⟩ = some (.int .i64 b))) (by kernel_rfl) (HS.out _ rfl) (fun hHeld0 => ?_)
                        refine take_list (i := 0) (v := ?_) rfl (by kernel_rfl) (by kernel_rfl) (by kernel_rfl) (fun _ _ _ h => h) (Or.inl ⟨by rfl, ?_⟩) (by assumption) ?_
                        rotate_left
                        · (intro w hSw; (try dsimp only at hSw); go_simp; try (with_reducible rfl))
                        try simp only [Act.put, List.setIfInBounds_toArray, List.set_cons_zero, List.set_cons_succ]
                        refine take_list (i := 1) (v := ?_) rfl (by kernel_rfl) (by kernel_rfl) (by kernel_rfl) (fun _ _ _ h => h) (Or.inl ⟨by rfl, ?_⟩) (by assumption) ?_
                        rotate_left
                        · (intro w hSw; (try dsimp only at hSw); go_simp; try (with_reducible rfl))
                        try simp only [Act.put, List.setIfInBounds_toArray, List.set_cons_zero, List.set_cons_succ]
                        refine take_list (i := 2) (v := ?_) rfl (by kernel_rfl) (by kernel_rfl) (by kernel_rfl) (fun _ _ _ h => h) (Or.inl ⟨by rfl, ?_⟩) (by assumption) ?_
                        rotate_left
                        · (intro w hSw; (try dsimp only at hSw); go_simp; try (with_reducible rfl))
                        try simp only [Act.put, List.setIfInBounds_toArray, List.set_cons_zero, List.set_cons_succ]
                        refine take_list (i := 3) (v := ?_) rfl (by kernel_rfl) (by kernel_rfl) (by kernel_rfl) (fun _ _ _ h => h) (Or.inl ⟨by rfl, ?_⟩) (by assumption) ?_
                        rotate_left
                        · (intro w hSw; (try dsimp only at hSw); go_simp; try (with_reducible rfl))
                        try simp only [Act.put, List.setIfInBounds_toArray, List.set_cons_zero, List.set_cons_succ]
                        refine take_list (i := 4) (v := ?_) rfl (by kernel_rfl) (by kernel_rfl) (by kernel_rfl) (fun _ _ _ h => h) (Or.inl ⟨by rfl, ?_⟩) (by assumption) ?_
                        rotate_left
                        · (intro w hSw; (try dsimp only at hSw); go_simp; try (with_reducible rfl))
                        try simp only [Act.put, List.setIfInBounds_toArray, List.set_cons_zero, List.set_cons_succ]
                        refine take_list (i := 5) (v := ?_) rfl (by kernel_rfl) (by kernel_rfl) (by kernel_rfl) (fun _ _ _ h => h) (Or.inl ⟨by rfl, ?_⟩) (by assumption) ?_
                        rotate_left
                        · (intro w hSw; (try dsimp only at hSw); go_simp; try (with_reducible rfl))
                        try simp only [Act.put, List.setIfInBounds_toArray, List.set_cons_zero, List.set_cons_succ]
                        refine take_list (i := 6) (v := ?_) rfl (by kernel_rfl) (by kernel_rfl) (by kernel_rfl) (fun _ _ _ h => h) (Or.inl ⟨by rfl, ?_⟩) (by assumption) ?_
                        rotate_left
                        · (intro w hSw; (try dsimp only at hSw); go_simp; try (with_reducible rfl))
                        try simp only [Act.put, List.setIfInBounds_toArray, List.set_cons_zero, List.set_cons_succ]
                        refine take_list (i := 7) (v := ?_) rfl (by kernel_rfl) (by kernel_rfl) (by kernel_rfl) (fun _ _ _ h => h) (Or.inl ⟨by rfl, ?_⟩) (by assumption) ?_
                        rotate_left
                        · (intro w hSw; (try dsimp only at hSw); go_simp; try (with_reducible rfl))
                        try simp only [Act.put, List.setIfInBounds_toArray, List.set_cons_zero, List.set_cons_succ]
                        refine take_list (i := 8) (v := ?_) rfl (by kernel_rfl) (by kernel_rfl) (by kernel_rfl) (fun _ _ _ h => h) (Or.inl ⟨by rfl, ?_⟩) (by assumption) ?_
                        rotate_left
                        · (intro w hSw; (try dsimp only at hSw); go_simp; try (with_reducible rfl))
                        try simp only [Act.put, List.setIfInBounds_toArray, List.set_cons_zero, List.set_cons_succ]
                        refine take_list (i := 9) (v := ?_) rfl (by kernel_rfl) (by kernel_rfl) (by kernel_rfl) (fun _ _ _ h => h) (Or.inl ⟨by rfl, ?_⟩) (by assumption) ?_
                        rotate_left
                        · (intro w hSw; (try dsimp only at hSw); go_simp; try (with_reducible rfl))
                        try simp only [Act.put, List.setIfInBounds_toArray, List.set_cons_zero, List.set_cons_succ]
                        refine take_list (i := 10) (v := ?_) rfl (by kernel_rfl) (by kernel_rfl) (by kernel_rfl) (fun _ _ _ h => h) (Or.inl ⟨by rfl, ?_⟩) (by assumption) ?_
                        rotate_left
                        · (intro w hSw; (try dsimp only at hSw); go_simp; try (with_reducible rfl))
                        try simp only [Act.put, List.setIfInBounds_toArray, List.set_cons_zero, List.set_cons_succ]
                        refine take_list (i := 11) (v := ?_) rfl (by kernel_rfl) (by kernel_rfl) (by kernel_rfl) (fun _ _ _ h => h) (Or.inl ⟨by rfl, ?_⟩) (by assumption) ?_
                        rotate_left
                        · (intro w hSw; (try dsimp only at hSw); go_simp; try (with_reducible rfl))
                        try simp only [Act.put, List.setIfInBounds_toArray, List.set_cons_zero, List.set_cons_succ]
                        refine take_list (i := 12) (v := ?_) rfl (by kernel_rfl) (by kernel_rfl) (by kernel_rfl) (fun _ _ _ h => h) (Or.inl ⟨by rfl, ?_⟩) (by assumption) ?_
                        rotate_left
                        · (intro w hSw; (try dsimp only at hSw); go_simp; try (with_reducible rfl))
                        try simp only [Act.put, List.setIfInBounds_toArray, List.set_cons_zero, List.set_cons_succ]
                        refine take_list (i := 13) (v := ?_) rfl (by kernel_rfl) (by kernel_rfl) (by kernel_rfl) (fun _ _ _ h => h) (Or.inl ⟨by rfl, ?_⟩) (by assumption) ?_
                        rotate_left
                        · (intro w hSw; (try dsimp only at hSw); go_simp; try (with_reducible rfl))
                        try simp only [Act.put, List.setIfInBounds_toArray, List.set_cons_zero, List.set_cons_succ]
                        refine take_list (i := 14) (v := ?_) rfl (by kernel_rfl) (by kernel_rfl) (by kernel_rfl) (fun _ _ _ h => h) (Or.inl ⟨by rfl, ?_⟩) (by assumption) ?_
                        rotate_left
                        · (intro w hSw; (try dsimp only at hSw); go_simp; try (with_reducible rfl))
                        try simp only [Act.put, List.setIfInBounds_toArray, List.set_cons_zero, List.set_cons_succ]
                        refine take_list (i := 15) (v := ?_) rfl (by kernel_rfl) (by kernel_rfl) (by kernel_rfl) (fun _ _ _ h => h) (Or.inl ⟨by rfl, ?_⟩) (by assumption) ?_
                        rotate_left
                        · (intro w hSw; (try dsimp only at hSw); go_simp; try (with_reducible rfl))
                        try simp only [Act.put, List.setIfInBounds_toArray, List.set_cons_zero, List.set_cons_succ]
                        refine take_list (i := 16) (v := ?_) rfl (by kernel_rfl) (by kernel_rfl) (by kernel_rfl) (fun _ _ _ h => h) (Or.inl ⟨by rfl, ?_⟩) (by assumption) ?_
                        rotate_left
                        · (intro w hSw; (try dsimp only at hSw); go_simp; try (with_reducible rfl))
                        try simp only [Act.put, List.setIfInBounds_toArray, List.set_cons_zero, List.set_cons_succ]
                        refine take_list (i := 17) (v := ?_) rfl (by kernel_rfl) (by kernel_rfl) (by kernel_rfl) (fun _ _ _ h => h) (Or.inl ⟨by rfl, ?_⟩) (by assumption) ?_
                        rotate_left
                        · (intro w hSw; (try dsimp only at hSw); go_simp; try (with_reducible rfl))
                        try simp only [Act.put, List.setIfInBounds_toArray, List.set_cons_zero, List.set_cons_succ]
                        refine take_list (i := 18) (v := ?_) rfl (by kernel_rfl) (by kernel_rfl) (by kernel_rfl) (fun _ _ _ h => h) (Or.inl ⟨by rfl, ?_⟩) (by assumption) ?_
                        rotate_left
                        · (intro w hSw; (try dsimp only at hSw); go_simp; try (with_reducible rfl))
                        try simp only [Act.put, List.setIfInBounds_toArray, List.set_cons_zero, List.set_cons_succ]
                        refine take_list (i := 19) (v := ?_) rfl (by kernel_rfl) (by kernel_rfl) (by kernel_rfl) (fun _ _ _ h => h) (Or.inl ⟨by rfl, ?_⟩) (by assumption) ?_
                        rotate_left
                        · (intro w hSw; (try dsimp only at hSw); go_simp; try (with_reducible rfl))
                        try simp only [Act.put, List.setIfInBounds_toArray, List.set_cons_zero, List.set_cons_succ]
                        refine wpAnyH_done (by kernel_rfl) ?_ _
                        clear hHeld0
                        go_wp2
                        go_ret
                        exact ⟨ret_bool HF.out.symm, AXD.out.below⟩
                      · have q1 : (ya == a) = true := by simp [hya]
                        have q2 : (yb == b) = false := by simp [hyb]
                        have HNE2 := Lib.hid (show ∀ y ∈ p.links.take (k + 1), (y.a, y.b) ≠ (a, b) from by rw [HTK.out]; intro y hy; rcases List.mem_append.1 hy with h1 | h1; exact HNE.out y h1; simp at h1; subst h1; intro e; injection e with e1 e2; simp at e1 e2; simp [e1, e2] at hyb)
                        clear hya hyb
                        go_upto_region 10 with fail
                        refine wp_region_held_drew (S := (fun wy => wy.cell? ⟨w.heap.size, 4, none⟩ = some (.slice (some ⟨bl, ol, none⟩) p.links.length h.cl) ∧ wy.cell? ⟨bl, ol + k * 3, none⟩ = some (.int .i64 ya) ∧ wy.cell? ⟨bl, ol + k * 3 + 1, none⟩ = some (.int .i64 yb) ∧ wy.cell? ⟨nb, 0, none⟩ = some (.int .i64 a) ∧ wy.cell? ⟨nb, 1, none⟩ = some (.int .i64 b))) (by kernel_rfl) (HS.out _ rfl) (fun hHeld0 => ?_)
                        refine take_list (i := 0) (v := ?_) rfl (by kernel_rfl) (by kernel_rfl) (by kernel_rfl) (fun _ _ _ h => h) (Or.inl ⟨by rfl, ?_⟩) (by assumption) ?_
                        rotate_left
                        · (intro w hSw; (try dsimp only at hSw); go_simp; try (with_reducible rfl))
                        try simp only [Act.put, List.setIfInBounds_toArray, List.set_cons_zero, List.set_cons_succ]
                        refine take_list (i := 1) (v := ?_) rfl (by kernel_rfl) (by kernel_rfl) (by kernel_rfl) (fun _ _ _ h => h) (Or.inl ⟨by rfl, ?_⟩) (by assumption) ?_
                        rotate_left
                        · (intro w hSw; (try dsimp only at hSw); go_simp; try (with_reducible rfl))
                        try simp only [Act.put, List.setIfInBounds_toArray, List.set_cons_zero, List.set_cons_succ]
                        refine take_list (i := 2) (v := ?_) rfl (by kernel_rfl) (by kernel_rfl) (by kernel_rfl) (fun _ _ _ h => h) (Or.inl ⟨by rfl, ?_⟩) (by assumption) ?_
                        rotate_left
                        · (intro w hSw; (try dsimp only at hSw); go_simp; try (with_reducible rfl))
                        try simp only [Act.put, List.setIfInBounds_toArray, List.set_cons_zero, List.set_cons_succ]
                        refine take_list (i := 3) (v := ?_) rfl (by kernel_rfl) (by kernel_rfl) (by kernel_rfl) (fun _ _ _ h => h) (Or.inl ⟨by rfl, ?_⟩) (by assumption) ?_
                        rotate_left
                        · (intro w hSw; (try dsimp only at hSw); go_simp; try (with_reducible rfl))
                        try simp only [Act.put, List.setIfInBounds_toArray, List.set_cons_zero, List.set_cons_succ]
                        refine take_list (i := 4) (v := ?_) rfl (by kernel_rfl) (by kernel_rfl) (by kernel_rfl) (fun _ _ _ h => h) (Or.inl ⟨by rfl, ?_⟩) (by assumption) ?_
                        rotate_left
                        · (intro w hSw; (try dsimp only at hSw); go_simp; try (with_reducible rfl))
                        try simp only [Act.put, List.setIfInBounds_toArray, List.set_cons_zero, List.set_cons_succ]
                        refine take_list (i := 5) (v := ?_) rfl (by kernel_rfl) (by kernel_rfl) (by kernel_rfl) (fun _ _ _ h => h) (Or.inl ⟨by rfl, ?_⟩) (by assumption) ?_
                        rotate_left
                        · (intro w hSw; (try dsimp only at hSw); go_simp; try (with_reducible rfl))
                        try simp only [Act.put, List.setIfInBounds_toArray, List.set_cons_zero, List.set_cons_succ]
                        refine take_list (i := 6) (v := ?_) rfl (by kernel_rfl) (by kernel_rfl) (by kernel_rfl) (fun _ _ _ h => h) (Or.inl ⟨by rfl, ?_⟩) (by assumption) ?_
                        rotate_left
                        · (intro w hSw; (try dsimp only at hSw); go_simp; try (with_reducible rfl))
                        try simp only [Act.put, List.setIfInBounds_toArray, List.set_cons_zero, List.set_cons_succ]
                        refine take_list (i := 7) (v := ?_) rfl (by kernel_rfl) (by kernel_rfl) (by kernel_rfl) (fun _ _ _ h => h) (Or.inl ⟨by rfl, ?_⟩) (by assumption) ?_
                        rotate_left
                        · (intro w hSw; (try dsimp only at hSw); go_simp; try (with_reducible rfl))
                        try simp only [Act.put, List.setIfInBounds_toArray, List.set_cons_zero, List.set_cons_succ]
                        refine take_list (i := 8) (v := ?_) rfl (by kernel_rfl) (by kernel_rfl) (by kernel_rfl) (fun _ _ _ h => h) (Or.inl ⟨by rfl, ?_⟩) (by assumption) ?_
                        rotate_left
                        · (intro w hSw; (try dsimp only at hSw); go_simp; try (with_reducible rfl))
                        try simp only [Act.put, List.setIfInBounds_toArray, List.set_cons_zero, List.set_cons_succ]
                        refine take_list (i := 9) (v := ?_) rfl (by kernel_rfl) (by kernel_rfl) (by kernel_rfl) (fun _ _ _ h => h) (Or.inl ⟨by rfl, ?_⟩) (by assumption) ?_
                        rotate_left
                        · (intro w hSw; (try dsimp only at hSw); go_simp; try (with_reducible rfl))
                        try simp only [Act.put, List.setIfInBounds_toArray, List.set_cons_zero, List.set_cons_succ]
                        refine take_list (i := 10) (v := ?_) rfl (by kernel_rfl) (by kernel_rfl) (by kernel_rfl) (fun _ _ _ h => h) (Or.inl ⟨by rfl, ?_⟩) (by assumption) ?_
                        rotate_left
                        · (intro w hSw; (try dsimp only at hSw); go_simp; try (with_reducible rfl))
                        try simp only [Act.put, List.setIfInBounds_toArray, List.set_cons_zero, List.set_cons_succ]
                        refine take_list (i := 11) (v := ?_) rfl (by kernel_rfl) (by kernel_rfl) (by kernel_rfl) (fun _ _ _ h => h) (Or.inl ⟨by rfl, ?_⟩) (by assumption) ?_
                        rotate_left
                        · (intro w hSw; (try dsimp only at hSw); go_simp; try (with_reducible rfl))
                        try simp only [Act.put, List.setIfInBounds_toArray, List.set_cons_zero, List.set_cons_succ]
                        refine take_list (i := 12) (v := ?_) rfl (by kernel_rfl) (by kernel_rfl) (by kernel_rfl) (fun _ _ _ h => h) (Or.inl ⟨by rfl, ?_⟩) (by assumption) ?_
                        rotate_left
                        · (intro w hSw; (try dsimp only at hSw); go_simp; try (with_reducible rfl))
                        try simp only [Act.put, List.setIfInBounds_toArray, List.set_cons_zero, List.set_cons_succ]
                        refine take_list (i := 13) (v := ?_) rfl (by kernel_rfl) (by kernel_rfl) (by kernel_rfl) (fun _ _ _ h => h) (Or.inl ⟨by rfl, ?_⟩) (by assumption) ?_
                        rotate_left
                        · (intro w hSw; (try dsimp only at hSw); go_simp; try (with_reducible rfl))
                        try simp only [Act.put, List.setIfInBounds_toArray, List.set_cons_zero, List.set_cons_succ]
                        refine take_list (i := 14) (v := ?_) rfl (by kernel_rfl) (by kernel_rfl) (by kernel_rfl) (fun _ _ _ h => h) (Or.inl ⟨by rfl, ?_⟩) (by assumption) ?_
                        rotate_left
                        · (intro w hSw; (try dsimp only at hSw); go_simp; try (with_reducible rfl))
                        try simp only [Act.put, List.setIfInBounds_toArray, List.set_cons_zero, List.set_cons_succ]
                        refine take_list (i := 15) (v := ?_) rfl (by kernel_rfl) (by kernel_rfl) (by kernel_rfl) (fun _ _ _ h => h) (Or.inl ⟨by rfl, ?_⟩) (by assumption) ?_
                        rotate_left
                        · (intro w hSw; (try dsimp only at hSw); go_simp; try (with_reducible rfl))
                        try simp only [Act.put, List.setIfInBounds_toArray, List.set_cons_zero, List.set_cons_succ]
                        refine take_list (i := 16) (v := ?_) rfl (by kernel_rfl) (by kernel_rfl) (by kernel_rfl) (fun _ _ _ h => h) (Or.inl ⟨by rfl, ?_⟩) (by assumption) ?_
                        rotate_left
                        · (intro w hSw; (try dsimp only at hSw); go_simp; try (with_reducible rfl))
                        try simp only [Act.put, List.setIfInBounds_toArray, List.set_cons_zero, List.set_cons_succ]
                        refine take_list (i := 17) (v := ?_) rfl (by kernel_rfl) (by kernel_rfl) (by kernel_rfl) (fun _ _ _ h => h) (Or.inl ⟨by rfl, ?_⟩) (by assumption) ?_
                        rotate_left
                        · (intro w hSw; (try dsimp only at hSw); go_simp; try (with_reducible rfl))
                        try simp only [Act.put, List.setIfInBounds_toArray, List.set_cons_zero, List.set_cons_succ]
                        refine take_list (i := 18) (v := ?_) rfl (by kernel_rfl) (by kernel_rfl) (by kernel_rfl) (fun _ _ _ h => h) (Or.inl ⟨by rfl, ?_⟩) (by assumption) ?_
                        rotate_left
                        · (intro w hSw; (try dsimp only at hSw); go_simp; try (with_reducible rfl))
                        try simp only [Act.put, List.setIfInBounds_toArray, List.set_cons_zero, List.set_cons_succ]
                        refine take_list (i := 19) (v := ?_) rfl (by kernel_rfl) (by kernel_rfl) (by kernel_rfl) (fun _ _ _ h => h) (Or.inl ⟨by rfl, ?_⟩) (by assumption) ?_
                        rotate_left
                        · (intro w hSw; (try dsimp only at hSw); go_simp; try (with_reducible rfl))
                        try simp only [Act.put, List.setIfInBounds_toArray, List.set_cons_zero, List.set_cons_succ]
                        refine wpAnyH_done (by kernel_rfl) ?_ _
                        clear hHeld0
                        go_wp2
                        go_roundw
                        case rel => exact ⟨k + 1, by omega, by go_num, HNE2.out, HQD.out⟩
                        case measure => simp [intOf]; omega
                    · have q1 : (ya == a) = false := by simp [hya]
                      have HNE2 := Lib.hid (show ∀ y ∈ p.links.take (k + 1), (y.a, y.b) ≠ (a, b) from by rw [HTK.out]; intro y hy; rcases List.mem_append.1 hy with h1 | h1; exact HNE.out y h1; simp at h1; subst h1; intro e; injection e with e1 e2; simp at e1 e2; simp [e1, e2] at hya)
                      clear hya
                      go_upto_region 10 with fail
                      refine wp_region_held_drew (S := (fun wy => wy.cell? ⟨w.heap.size, 4, none⟩ = some (.slice (some ⟨bl, ol, none⟩) p.links.length h.cl) ∧ wy.cell? ⟨bl, ol + k * 3, none⟩ = some (.int .i64 ya) ∧ wy.cell? ⟨bl, ol + k * 3 + 1, none⟩ = some (.int .i64 yb) ∧ wy.cell? ⟨nb, 0, none⟩ = some (.int .i64 a) ∧ wy.cell? ⟨nb, 1, none⟩ = some (.int .i64 b))) (by kernel_rfl) (HS.out _ rfl) (fun hHeld0 => ?_)
                      refine take_list (i := 0) (v := ?_) rfl (by kernel_rfl) (by kernel_rfl) (by kernel_rfl) (fun _ _ _ h => h) (Or.inl ⟨by rfl, ?_⟩) (by assumption) ?_
                      rotate_left
                      · (intro w hSw; (try dsimp only at hSw); go_simp; try (with_reducible rfl))
                      try simp only [Act.put, List.setIfInBounds_toArray, List.set_cons_zero, List.set_cons_succ]
                      refine take_list (i := 1) (v := ?_) rfl (by kernel_rfl) (by kernel_rfl) (by kernel_rfl) (fun _ _ _ h => h) (Or.inl ⟨by rfl, ?_⟩) (by assumption) ?_
                      rotate_left
                      · (intro w hSw; (try dsimp only at hSw); go_simp; try (with_reducible rfl))
                      try simp only [Act.put, List.setIfInBounds_toArray, List.set_cons_zero, List.set_cons_succ]
                      refine take_list (i := 2) (v := ?_) rfl (by kernel_rfl) (by kernel_rfl) (by kernel_rfl) (fun _ _ _ h => h) (Or.inl ⟨by rfl, ?_⟩) (by assumption) ?_
                      rotate_left
                      · (intro w hSw; (try dsimp only at hSw); go_simp; try (with_reducible rfl))
                      try simp only [Act.put, List.setIfInBounds_toArray, List.set_cons_zero, List.set_cons_succ]
                      refine take_list (i := 3) (v := ?_) rfl (by kernel_rfl) (by kernel_rfl) (by kernel_rfl) (fun _ _ _ h => h) (Or.inl ⟨by rfl, ?_⟩) (by assumption) ?_
                      rotate_left
                      · (intro w hSw; (try dsimp only at hSw); go_simp; try (with_reducible rfl))
                      try simp only [Act.put, List.setIfInBounds_toArray, List.set_cons_zero, List.set_cons_succ]
                      refine take_list (i := 4) (v := ?_) rfl (by kernel_rfl) (by kernel_rfl) (by kernel_rfl) (fun _ _ _ h => h) (Or.inl ⟨by rfl, ?_⟩) (by assumption) ?_
                      rotate_left
                      · (intro w hSw; (try dsimp only at hSw); go_simp; try (with_reducible rfl))
                      try simp only [Act.put, List.setIfInBounds_toArray, List.set_cons_zero, List.set_cons_succ]
                      refine take_list (i := 5) (v := ?_) rfl (by kernel_rfl) (by kernel_rfl) (by kernel_rfl) (fun _ _ _ h => h) (Or.inl ⟨by rfl, ?_⟩) (by assumption) ?_
                      rotate_left
                      · (intro w hSw; (try dsimp only at hSw); go_simp; try (with_reducible rfl))
                      try simp only [Act.put, List.setIfInBounds_toArray, List.set_cons_zero, List.set_cons_succ]
                      refine take_list (i := 6) (v := ?_) rfl (by kernel_rfl) (by kernel_rfl) (by kernel_rfl) (fun _ _ _ h => h) (Or.inl ⟨by rfl, ?_⟩) (by assumption) ?_
                      rotate_left
                      · (intro w hSw; (try dsimp only at hSw); go_simp; try (with_reducible rfl))
                      try simp only [Act.put, List.setIfInBounds_toArray, List.set_cons_zero, List.set_cons_succ]
                      refine take_list (i := 7) (v := ?_) rfl (by kernel_rfl) (by kernel_rfl) (by kernel_rfl) (fun _ _ _ h => h) (Or.inl ⟨by rfl, ?_⟩) (by assumption) ?_
                      rotate_left
                      · (intro w hSw; (try dsimp only at hSw); go_simp; try (with_reducible rfl))
                      try simp only [Act.put, List.setIfInBounds_toArray, List.set_cons_zero, List.set_cons_succ]
                      refine take_list (i := 8) (v := ?_) rfl (by kernel_rfl) (by kernel_rfl) (by kernel_rfl) (fun _ _ _ h => h) (Or.inl ⟨by rfl, ?_⟩) (by assumption) ?_
                      rotate_left
                      · (intro w hSw; (try dsimp only at hSw); go_simp; try (with_reducible rfl))
                      try simp only [Act.put, List.setIfInBounds_toArray, List.set_cons_zero, List.set_cons_succ]
                      refine take_list (i := 9) (v := ?_) rfl (by kernel_rfl) (by kernel_rfl) (by kernel_rfl) (fun _ _ _ h => h) (Or.inl ⟨by rfl, ?_⟩) (by assumption) ?_
                      rotate_left
                      · (intro w hSw; (try dsimp only at hSw); go_simp; try (with_reducible rfl))
                      try simp only [Act.put, List.setIfInBounds_toArray, List.set_cons_zero, List.set_cons_succ]
                      refine take_list (i := 10) (v := undef) rfl (by kernel_rfl) (by kernel_rfl) (by kernel_rfl) (fun _ _ _ h => h) (Or.inr ⟨by rfl, rfl⟩) (by assumption) ?_
                      try simp only [Act.put, List.setIfInBounds_toArray, List.set_cons_zero, List.set_cons_succ]
                      refine take_list (i := 11) (v := undef) rfl (by kernel_rfl) (by kernel_rfl) (by kernel_rfl) (fun _ _ _ h => h) (Or.inr ⟨by rfl, rfl⟩) (by assumption) ?_
                      try simp only [Act.put, List.setIfInBounds_toArray, List.set_cons_zero, List.set_cons_succ]
                      refine take_list (i := 12) (v := undef) rfl (by kernel_rfl) (by kernel_rfl) (by kernel_rfl) (fun _ _ _ h => h) (Or.inr ⟨by rfl, rfl⟩) (by assumption) ?_
                      try simp only [Act.put, List.setIfInBounds_toArray, List.set_cons_zero, List.set_cons_succ]
                      refine take_list (i := 13) (v := undef) rfl (by kernel_rfl) (by kernel_rfl) (by kernel_rfl) (fun _ _ _ h => h) (Or.inr ⟨by rfl, rfl⟩) (by assumption) ?_
                      try simp only [Act.put, List.setIfInBounds_toArray, List.set_cons_zero, List.set_cons_succ]
                      refine take_list (i := 14) (v := undef) rfl (by kernel_rfl) (by kernel_rfl) (by kernel_rfl) (fun _ _ _ h => h) (Or.inr ⟨by rfl, rfl⟩) (by assumption) ?_
                      try simp only [Act.put, List.setIfInBounds_toArray, List.set_cons_zero, List.set_cons_succ]
                      refine take_list (i := 15) (v := undef) rfl (by kernel_rfl) (by kernel_rfl) (by kernel_rfl) (fun _ _ _ h => h) (Or.inr ⟨by rfl, rfl⟩) (by assumption) ?_
                      try simp only [Act.put, List.setIfInBounds_toArray, List.set_cons_zero, List.set_cons_succ]
                      refine take_list (i := 16) (v := undef) rfl (by kernel_rfl) (by kernel_rfl) (by kernel_rfl) (fun _ _ _ h => h) (Or.inr ⟨by rfl, rfl⟩) (by assumption) ?_
                      try simp only [Act.put, List.setIfInBounds_toArray, List.set_cons_zero, List.set_cons_succ]
                      refine take_list (i := 17) (v := undef) rfl (by kernel_rfl) (by kernel_rfl) (by kernel_rfl) (fun _ _ _ h => h) (Or.inr ⟨by rfl, rfl⟩) (by assumption) ?_
                      try simp only [Act.put, List.setIfInBounds_toArray, List.set_cons_zero, List.set_cons_succ]
                      refine take_list (i := 18) (v := undef) rfl (by kernel_rfl) (by kernel_rfl) (by kernel_rfl) (fun _ _ _ h => h) (Or.inr ⟨by rfl, rfl⟩) (by assumption) ?_
                      try simp only [Act.put, List.setIfInBounds_toArray, List.set_cons_zero, List.set_cons_succ]
                      refine take_list (i := 19) (v := ?_) rfl (by kernel_rfl) (by kernel_rfl) (by kernel_rfl) (fun _ _ _ h => h) (Or.inl ⟨by rfl, ?_⟩) (by assumption) ?_
                      rotate_left
                      · (intro w hSw; (try dsimp only at hSw); go_simp; try (with_reducible rfl))
                      try simp only [Act.put, List.setIfInBounds_toArray, List.set_cons_zero, List.set_cons_succ]
                      refine wpAnyH_done (by kernel_rfl) ?_ _
                      clear hHeld0
                      go_wp2
                      go_roundw
                      case rel => exact ⟨k + 1, by omega, by go_num, HNE2.out, HQD.out⟩
                      case measure => simp [intOf]; omega
                  · have hki' : k = i := by omega
                    have HN2 := Lib.hid (pairs_end HZ.out HND.out (by rw [← hki']; exact HNE.out))
                    clear hki' hq hA2 hqd m0 m1
                    go_wp2
                    go_roundw
                    case rel => exact ⟨i + 1, by omega, by go_num, by rw [HT.out, List.all_append, HALL.out]; simp [HO.out], HN2.out, AX3.out⟩
                    case measure => simp [intOf]; omega
        · have hCB : placeB b p.nodes.length = false := by simpa using hCB
          have HF := Lib.hid (HBAD.out (by rw [BODY.out, hCB]; simp))
          go_wp2_with (go_at_call 69; refine (rplace_any _ _ _).mono ?_; rintro e wm ⟨rfl, rfl⟩)
          go_ret
          exact ⟨ret_bool HF.out.symm, HB.out⟩
      · have hCA : placeB a p.nodes.length = false := by simpa using hCA
        have hna : ¬ (0 ≤ a ∧ a < p.nodes.length) := by simpa [placeB] using hCA
        have HF := Lib.hid (HBAD.out (by rw [Bool.eq_false_iff]; intro hc; rw [BODY.out] at hc; simp [placeB, withinB] at hc <;> omega))
        clear hna
        go_wp2_with (go_at_call 69; refine (rplace_any _ _ _).mono ?_; rintro e wm ⟨rfl, rfl⟩)
        go_ret
        exact ⟨ret_bool HF.out.symm, HB.out⟩
    · have HF := Lib.hid (show linksB p = decide (p.links.length ≤ 16) from by
        have h1 := HALL.out
        have h2 := HND.out
        rw [List.take_of_length_le (by omega)] at h1 h2
        unfold linksB; rw [h1, decide_eq_true h2]; simp)
      clear hA
      by_cases h4 : p.links.length ≤ 16
      · have h4' : (p.links.length : Int) ≤ 16 := by omega
        have HG := Lib.hid (show linksB p = true from by rw [HF.out]; simp [h4])
        clear h4
        go_wp2
        go_ret
        exact ⟨ret_bool (by rw [HG.out]), AX.out.below⟩
      · have h4' : ¬ (p.links.length : Int) ≤ 16 := by omega
        have HG := Lib.hid (show linksB p = false from by rw [HF.out]; simp [h4])
        clear h4
        go_wp2
        go_ret
        exact ⟨ret_bool (by rw [HG.out]), AX.out.below⟩
end
end Go.Proofs.YtakolnmoieiicaaGreat

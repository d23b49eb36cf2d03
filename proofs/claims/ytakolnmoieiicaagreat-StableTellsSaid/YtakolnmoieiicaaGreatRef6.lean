/- The document's own answers of layer 6: rank, Better, Right, Best. -/
import Derived.Test.YtakolnmoieiicaaGreatAttrX
import Derived.Test.YtakolnmoieiicaaGreatRegs
import Derived.Test.YtakolnmoieiicaaGreatAttrB
namespace Go.Proofs.YtakolnmoieiicaaGreat
set_option linter.unusedSimpArgs false
set_option linter.unusedVariables false
open Go.RowKit

def rkI (k : Int) : Int := Int.tmod (IntKind.i64.wrap (k + 2)) 3
theorem rank6_any (k : Int) (w : World) : Calls Tryz.prog 101 #[.int .i64 k] w fun e w' => e = .returned (.int .i64 (rkI k)) ∧ w = w' := by
  go_enter Tryz.func101, Tryz.ntmps101
  go_wp2
  go_ret
  exact ⟨ret_int (by unfold rkI wrap64; rw [IntKind.wrap_i64]), rfl⟩
/-- The first place at which two lists differ decides. -/
def ltI : List Int → List Int → Bool
  | x :: l, y :: m => if x = y then ltI l m else decide (x < y)
  | _, _ => false
theorem ltI_self : ∀ l : List Int, ltI l l = false
  | [] => rfl
  | x :: l => by unfold ltI; rw [if_pos rfl]; exact ltI_self l
theorem ltI_at : ∀ {l m : List Int} {k : Nat} {x y : Int}, l.take k = m.take k → l[k]? = some x → m[k]? = some y → x ≠ y → ltI l m = decide (x < y)
  | [], _, k, x, y, _, h, _, _ => by simp at h
  | _ :: _, [], k, x, y, _, _, h, _ => by simp at h
  | a :: l, b :: m, 0, x, y, _, h, h', hne => by
    simp at h h'
    subst h h'
    unfold ltI; rw [if_neg hne]
  | a :: l, b :: m, k + 1, x, y, ht, h, h', hne => by
    simp only [List.take_succ_cons, List.cons.injEq] at ht
    unfold ltI
    rw [if_pos ht.1]
    exact ltI_at ht.2 (by simpa using h) (by simpa using h') hne
theorem ltI_lex : ∀ {l m : List Int}, l.length = m.length → (ltI l m = true ↔ lexI l m = -1)
  | [], [], _ => by simp [ltI, lexI]
  | [], _ :: _, h => by simp at h
  | _ :: _, [], h => by simp at h
  | x :: l, y :: m, h => by
    have ih := ltI_lex (l := l) (m := m) (by simpa using h)
    unfold ltI lexI
    by_cases e : x = y
    · rw [if_pos e, if_neg (by rw [cmpI_zero.2 e]; simp)]; exact ih
    · rw [if_neg e, if_pos (fun h0 => e (cmpI_zero.1 h0)), cmpI_neg, decide_eq_true_eq]
def rbetB (a b : Rt) : Bool := if a.kind = b.kind then (if a.cost = b.cost then (if a.path.length = b.path.length then ltI a.path b.path else decide (a.path.length < b.path.length)) else decide (a.cost < b.cost)) else decide (rkI a.kind < rkI b.kind)
def KindOk (r : Rt) : Prop := r.kind = 0 ∨ r.kind = 1 ∨ r.kind = 2
theorem rk_rank {k m : Int} (hk : k = 0 ∨ k = 1 ∨ k = 2) (hm : m = 0 ∨ m = 1 ∨ m = 2) : (rkI k < rkI m ↔ rankI m < rankI k) ∧ (rankI m = rankI k ↔ k = m) := by
  have h0 : rkI 0 = 2 := by decide
  have h1 : rkI 1 = 0 := by decide
  have h2 : rkI 2 = 1 := by decide
  rcases hk with rfl | rfl | rfl <;> rcases hm with rfl | rfl | rfl <;> simp [h0, h1, h2, rankI]
theorem rbet_eq {a b : Rt} (ha : KindOk a) (hb : KindOk b) : rbetB a b = betterB a b := by
  have ⟨h1, h2⟩ := rk_rank ha hb
  rw [Bool.eq_iff_iff]
  unfold betterB
  rw [decide_eq_true_eq, cmpR_neg]
  unfold rbetB ltR
  by_cases hk : a.kind = b.kind
  · rw [if_pos hk]
    have e := h2.2 hk
    by_cases hc : a.cost = b.cost
    · rw [if_pos hc]
      by_cases hl : a.path.length = b.path.length
      · rw [if_pos hl, ltI_lex hl]
        constructor
        · intro h; exact .inr ⟨e, .inr ⟨hc, .inr ⟨hl, h⟩⟩⟩
        · rintro (h | ⟨-, h | ⟨-, h | ⟨-, h⟩⟩⟩)
          · omega
          · omega
          · omega
          · exact h
      · rw [if_neg hl, decide_eq_true_eq]
        constructor
        · intro h; exact .inr ⟨e, .inr ⟨hc, .inl h⟩⟩
        · rintro (h | ⟨-, h | ⟨-, h | ⟨h, -⟩⟩⟩)
          · omega
          · omega
          · exact h
          · exact absurd h hl
    · rw [if_neg hc, decide_eq_true_eq]
      constructor
      · intro h; exact .inr ⟨e, .inl h⟩
      · rintro (h | ⟨-, h | ⟨h, -⟩⟩)
        · omega
        · exact h
        · exact absurd h hc
  · rw [if_neg hk, decide_eq_true_eq, h1]
    constructor
    · intro h; exact .inl h
    · rintro (h | ⟨h, -⟩)
      · exact h
      · exact absurd (h2.1 h) hk

theorem TwoW.kinds {w wr : World} {a b : Rt} {A A' : Option Addr} {c c' : Nat} (h : TwoW w wr a b A A' c c') : wr.cell? ⟨w.heap.size, 0, none⟩ = some (.int .i64 a.kind) ∧ wr.cell? ⟨w.heap.size + 1, 0, none⟩ = some (.int .i64 b.kind) :=
  ⟨cell_of_row wr _ 0 _ _ _ h.a, cell_of_row wr _ 0 _ _ _ h.b⟩
attribute [local go_sem ↓] Go.wp_at_zero Go.wp_at_succ
set_option maxRecDepth 100000 in
set_option maxHeartbeats 2000000 in
theorem refBetter_any (a b : Rt) (A A' : Option Addr) (c c' : Nat) (w : World) (h : RtR w w.heap.size a A c) (h' : RtR w w.heap.size b A' c') :
    Calls Tryz.prog 80 #[rtV a A c, rtV b A' c'] w fun e w' => e = .returned (.bool (rbetB a b)) ∧ Below w.heap.size w w' := by
  have hl : a.path.length ≤ maxLen := Nat.le_trans h.2.1 h.2.2
  unfold maxLen at hl
  have HT := Lib.hid (TwoW.begin (w := w) (a := a) (b := b) (A := A) (A' := A') (c := c) (c' := c'))
  have HA := Lib.hid h.1
  have HA' := Lib.hid h'.1
  have HE := Lib.hid (show rbetB a b = _ from rfl)
  clear h h'
  unfold rtV
  by_cases hk : a.kind = b.kind
  rotate_left
  · have bk : (a.kind != b.kind) = true := by simp [hk]
    have HN := Lib.hid (show rbetB a b = decide (rkI a.kind < rkI b.kind) from by unfold rbetB; rw [if_neg hk])
    clear hk HE
    go_enter Tryz.func80, Tryz.ntmps80
    go_upto_region 2 with fail
    have hTd := HT.out.call (below_drew (Below.refl _ _))
    refine wp_region_held_drew (S := (fun wy => wy.cell? ⟨w.heap.size, 0, none⟩ = some (.int .i64 a.kind) ∧ wy.cell? ⟨w.heap.size + 1, 0, none⟩ = some (.int .i64 b.kind))) (by kernel_rfl) (hTd.kinds) (fun hHeld0 => ?_)
    refine take_list (i := 0) (v := ?_) rfl (by kernel_rfl) (by kernel_rfl) (by kernel_rfl) (fun _ _ _ h => h) (Or.inl ⟨by rfl, ?_⟩) (by assumption) ?_
    rotate_left
    · (intro w hSw; (try dsimp only at hSw); go_simp; try (with_reducible rfl))
    try simp only [Act.put, List.setIfInBounds_toArray, List.set_cons_zero, List.set_cons_succ]
    refine take_list (i := 1) (v := ?_) rfl (by kernel_rfl) (by kernel_rfl) (by kernel_rfl) (fun _ _ _ h => h) (Or.inl ⟨by rfl, ?_⟩) (by assumption) ?_
    rotate_left
    · (intro w hSw; (try dsimp only at hSw); go_simp; try (with_reducible rfl))
    try simp only [Act.put, List.setIfInBounds_toArray, List.set_cons_zero, List.set_cons_succ]
    refine take_list (i := 3) (v := ?_) rfl (by kernel_rfl) (by kernel_rfl) (by kernel_rfl) (fun _ _ _ h => h) (Or.inl ⟨by rfl, ?_⟩) (by assumption) ?_
    rotate_left
    · (intro w hSw; (try dsimp only at hSw); go_simp; try (with_reducible rfl))
    try simp only [Act.put, List.setIfInBounds_toArray, List.set_cons_zero, List.set_cons_succ]
    refine take_list (i := 4) (v := ?_) rfl (by kernel_rfl) (by kernel_rfl) (by kernel_rfl) (fun _ _ _ h => h) (Or.inl ⟨by rfl, ?_⟩) (by assumption) ?_
    rotate_left
    · (intro w hSw; (try dsimp only at hSw); go_simp; try (with_reducible rfl))
    try simp only [Act.put, List.setIfInBounds_toArray, List.set_cons_zero, List.set_cons_succ]
    refine wpAnyH_ready (rs := [2]) (by kernel_rfl) (by simp) ?_
    refine cons_list rfl (fun K hK => ?_) AllReadyH.nil
    go_simp
    (go_at_call 101; refine (rank6_any _ _).mono ?_; rintro e w4 ⟨rfl, rfl⟩)
    refine hK.out _ _ (hTd.kinds) (fun hHeld1 => ?_)
    clear hK K hHeld0
    try simp only [Act.put, List.setIfInBounds_toArray, List.set_cons_zero, List.set_cons_succ]
    refine wpAnyH_ready (rs := [5]) (by kernel_rfl) (by simp) ?_
    refine cons_list rfl (fun K hK => ?_) AllReadyH.nil
    go_simp
    (go_at_call 101; refine (rank6_any _ _).mono ?_; rintro e w5 ⟨rfl, rfl⟩)
    refine hK.out _ _ (hTd.kinds) (fun hHeld2 => ?_)
    clear hK K hHeld1
    try simp only [Act.put, List.setIfInBounds_toArray, List.set_cons_zero, List.set_cons_succ]
    refine take_list (i := 6) (v := ?_) rfl (by kernel_rfl) (by kernel_rfl) (by kernel_rfl) (fun _ _ _ h => h) (Or.inl ⟨by rfl, ?_⟩) (by assumption) ?_
    rotate_left
    · (intro w hSw; (try dsimp only at hSw); go_simp; try (with_reducible rfl))
    try simp only [Act.put, List.setIfInBounds_toArray, List.set_cons_zero, List.set_cons_succ]
    refine take_list (i := 7) (v := ?_) rfl (by kernel_rfl) (by kernel_rfl) (by kernel_rfl) (fun _ _ _ h => h) (Or.inl ⟨by rfl, ?_⟩) (by assumption) ?_
    rotate_left
    · (intro w hSw; (try dsimp only at hSw); go_simp; try (with_reducible rfl))
    try simp only [Act.put, List.setIfInBounds_toArray, List.set_cons_zero, List.set_cons_succ]
    refine wpAnyH_done (by kernel_rfl) ?_ _
    clear hHeld2
    go_wp2
    go_ret
    exact ⟨ret_bool (by rw [HN.out]), hTd.below⟩
  have bk : (a.kind != b.kind) = false := by simp [hk]
  by_cases hc : a.cost = b.cost
  rotate_left
  · have bc : (a.cost != b.cost) = true := by simp [hc]
    have HN := Lib.hid (show rbetB a b = decide (a.cost < b.cost) from by unfold rbetB; rw [if_pos hk, if_neg hc])
    clear hk hc HE
    go_enter Tryz.func80, Tryz.ntmps80
    go_wp2
    go_ret
    exact ⟨ret_bool (by rw [HN.out]), HT.out.below⟩
  have bc : (a.cost != b.cost) = false := by simp [hc]
  by_cases hn : a.path.length = b.path.length
  rotate_left
  · have bn : ((a.path.length : Int) != (b.path.length : Int)) = true := by simp; omega
    have HN := Lib.hid (show rbetB a b = decide (a.path.length < b.path.length) from by unfold rbetB; rw [if_pos hk, if_pos hc, if_neg hn])
    clear hk hc hn HE
    go_enter Tryz.func80, Tryz.ntmps80
    go_wp2
    go_ret
    exact ⟨ret_bool (by rw [HN.out]), HT.out.below⟩
  have bn : ((a.path.length : Int) != (b.path.length : Int)) = false := by simp; omega
  have HP := Lib.hid (show rbetB a b = ltI a.path b.path from by unfold rbetB; rw [if_pos hk, if_pos hc, if_pos hn])
  have HL := Lib.hid hn
  clear hk hc hn HE
  go_enter Tryz.func80, Tryz.ntmps80
  go_wp2_with fail
  go_loopw [5] (fun i wr => ∃ k : Nat, k ≤ a.path.length ∧ i = .int .i64 k ∧ a.path.take k = b.path.take k ∧ TwoW w wr a b A A' c c') (fun i _ => a.path.length - (intOf i).toNat)
  case atStart => exact ⟨0, Nat.zero_le _, rfl, by simp, HT.out⟩
  case round =>
    obtain ⟨k, hk, rfl, heq, hT⟩ := hrel
    have HQ := Lib.hid heq
    have HW := Lib.hid hT
    obtain ⟨p0, p1⟩ := hT.at2
    have hsz := hT.size
    clear heq
    by_cases hlt : k < a.path.length
    · have hlt' : k < b.path.length := by have := HL.out; omega
      obtain ⟨x, hx⟩ : ∃ x, a.path[k]? = some x := ⟨_, List.getElem?_eq_getElem hlt⟩
      obtain ⟨y, hy⟩ : ∃ y, b.path[k]? = some y := ⟨_, List.getElem?_eq_getElem hlt'⟩
      obtain ⟨b1, o1, e1, hb1, hc1⟩ := (HA.out.below hT.below (Nat.le_refl _)).one (i := k) (x := .int .i64 x) (by simp [ints, hx])
      obtain ⟨b2, o2, e2, hb2, hc2⟩ := (HA'.out.below hT.below (Nat.le_refl _)).one (i := k) (x := .int .i64 y) (by simp [ints, hy])
      rw [e1] at p0
      rw [e2] at p1
      have hz0 : (0 : Int) ≤ (k : Int) := by omega
      have hz1 : (k : Int) < (a.path.length : Int) := by omega
      have hz2 : (k : Int) < (b.path.length : Int) := by omega
      have HX := Lib.hid hx
      have HY := Lib.hid hy
      clear hx hy e1 e2 hT
      by_cases hxy : x = y
      · have HF := Lib.hid (show a.path.take (k + 1) = b.path.take (k + 1) from by rw [List.take_add_one, List.take_add_one, HX.out, HY.out, HQ.out, hxy])
        have bx : (x != y) = false := by simp [hxy]
        clear hxy
        go_wp2_with fail
        go_quiet (fail)
        go_wp2
        go_roundw
        case rel => exact ⟨k + 1, by omega, by go_num, HF.out, HW.out.call ((Below.refl _ _).trans ⟨rfl, rfl, rfl, Nat.le_refl _, fun _ _ => rfl⟩)⟩
        case measure => simp [intOf]; omega
      · have bx : (x != y) = true := by simp [hxy]
        have HF := Lib.hid (show decide (x < y) = rbetB a b from by
          rw [HP.out, ltI_at HQ.out HX.out HY.out hxy])
        clear hxy
        go_wp2_with fail
        go_quiet (fail)
        go_wp2_with fail
        go_quiet (fail)
        go_wp2
        go_ret
        exact ⟨ret_bool HF.out, HW.out.below.trans ⟨rfl, rfl, rfl, Nat.le_refl _, fun _ _ => rfl⟩⟩
    · have HF := Lib.hid (show false = rbetB a b from by
        rw [HP.out]
        have h1 := HQ.out
        rw [List.take_of_length_le (by omega), List.take_of_length_le (by have := HL.out; omega)] at h1
        rw [h1, ltI_self])
      clear hT
      go_wp2
      go_ret
      exact ⟨ret_bool HF.out, HW.out.below⟩

theorem listB_bad {l : List Int} {x : Int} (h : x ∈ l) (hb : badNum x = true) : listB l = false := by
  unfold listB
  have : l.any badNum = true := List.any_eq_true.2 ⟨x, h, hb⟩
  simp [this]
theorem listB_dup {l : List Int} (h : ¬ l.Nodup) : listB l = false := by unfold listB; simp [h]
theorem listB_ok {l : List Int} (h1 : ∀ y ∈ l, badNum y = false) (h2 : l.Nodup) : listB l = decide (l.length ≤ 12) := by
  have : l.any badNum = false := by rw [List.any_eq_false]; intro y hy; simp [h1 y hy]
  unfold listB
  simp [this, h2]
theorem rr_bad {r : Rt} (hp : r.path.length ≠ 0) (hb : listB r.path = false) : rtRightB r = false := by
  unfold rtRightB
  rw [hb]
  split
  · simp [hp]
  · split
    · simp [hp]
    · split <;> simp
set_option maxRecDepth 100000 in
set_option maxHeartbeats 4000000 in
theorem refRight_any (r : Rt) (A : Option Addr) (c : Nat) (w : World) (h : RtR w w.heap.size r A c) :
    Calls Tryz.prog 81 #[rtV r A c] w fun e w' => e = .returned (.bool (rtRightB r)) ∧ Below w.heap.size w w' := by
  have hl : r.path.length ≤ maxLen := Nat.le_trans h.2.1 h.2.2
  unfold maxLen at hl
  have BX := Lib.hid (Box.new h)
  have B0 := Lib.hid ((Below.refl w.heap.size w).alloc (Nat.le_refl _) (.cells #[.int .i64 r.kind, .int .i64 r.cost, .slice A r.path.length c] 48))
  clear h
  unfold rtV
  go_enter Tryz.func81, Tryz.ntmps81
  go_wp2_with fail
  generalize (w.alloc (.cells #[.int .i64 r.kind, .int .i64 r.cost, .slice A r.path.length c] 48)) = w1 at *
  obtain ⟨q0, q1, q2⟩ := BX.out.at_
  go_loopw [3] (fun si wx => ∃ i : Nat, i ≤ r.path.length ∧ i ≤ 13 ∧ si = .int .i64 i ∧ (∀ y ∈ r.path.take i, badNum y = false) ∧ (r.path.take i).Nodup ∧ Below w1.heap.size w1 wx) (fun si _ => 13 - (intOf si).toNat)
  case atStart => exact ⟨0, Nat.zero_le _, by omega, rfl, by simp, by simp, Below.refl _ _⟩
  case round =>
    obtain ⟨i, hi, hi13, rfl, hgood, hnd, hB⟩ := hrel
    have HG := Lib.hid hgood
    have HN := Lib.hid hnd
    have WX := Lib.hid hB
    have X1 := Lib.hid (BX.out.call hB)
    clear hgood hnd q0 q1 q2
    obtain ⟨q0, q1, q2⟩ := X1.out.at_
    by_cases hlt : i < r.path.length ∧ (i : Int) < 13
    · obtain ⟨hlt, h13⟩ := hlt
      obtain ⟨x, hx⟩ : ∃ x, r.path[i]? = some x := ⟨_, List.getElem?_eq_getElem hlt⟩
      obtain ⟨b, o, rfl, hb, hc⟩ := X1.out.rt.1.one (i := i) (x := .int .i64 x) (by simp [ints, hx])
      have HT : Hid (r.path.take (i + 1) = r.path.take i ++ [x]) := Lib.hid (by rw [List.take_add_one, hx]; rfl)
      have HX := Lib.hid hx
      have hi0 : (0 : Int) ≤ (i : Int) := by omega
      have HBD : Hid (badNum x = true → false = rtRightB r) := Lib.hid (fun hb => (rr_bad (by omega) (listB_bad (List.mem_of_getElem? HX.out) hb)).symm)
      have HDU : Hid (x ∈ r.path.take i → false = rtRightB r) := Lib.hid (fun hm => (rr_bad (by omega) (listB_dup (fun hn => by
        have h1 := hn.sublist (List.take_sublist (i + 1) r.path)
        rw [HT.out, List.nodup_append] at h1
        exact absurd rfl (h1.2.2 x hm x (by simp))))).symm)
      clear hx
      by_cases hlo : x < 1
      · have HF := Lib.hid (HBD.out (by simp [badNum]; omega))
        go_wp2
        go_ret
        exact ⟨ret_bool HF.out, B0.out.trans (WX.out.mono B0.out.size)⟩
      by_cases hhi : 65535 < x
      · have HF := Lib.hid (HBD.out (by simp [badNum]; omega))
        go_wp2
        go_ret
        exact ⟨ret_bool HF.out, B0.out.trans (WX.out.mono B0.out.size)⟩
      have HXG := Lib.hid (show badNum x = false from by simp [badNum]; omega)
      go_wp2_with fail
      clear q0 q1 q2 hc
      go_loopw [4] (fun sk wy => ∃ k : Nat, k ≤ i ∧ sk = .int .i64 k ∧ x ∉ r.path.take k ∧ Below w1.heap.size w1 wy) (fun sk _ => i - (intOf sk).toNat)
      case atStart => exact ⟨0, Nat.zero_le _, rfl, by simp, WX.out⟩
      case round =>
        obtain ⟨k, hk, rfl, hnot, hB2⟩ := hrel
        have WY := Lib.hid hB2
        have HNO := Lib.hid hnot
        have X2 := Lib.hid (BX.out.call hB2)
        obtain ⟨q0, q1, q2⟩ := X2.out.at_
        clear hnot
        by_cases hki : k < i
        · obtain ⟨y, hy⟩ : ∃ y, r.path[k]? = some y := ⟨_, List.getElem?_eq_getElem (by omega)⟩
          obtain ⟨b1, o1, e1, hb1, hc1⟩ := X2.out.rt.1.one (i := i) (x := .int .i64 x) (by simp [ints, HX.out])
          obtain ⟨b2, o2, e2, hb2, hc2⟩ := X2.out.rt.1.one (i := k) (x := .int .i64 y) (by simp [ints, hy])
          injection e1 with e1
          injection e1 with e3 e4
          injection e2 with e2
          injection e2 with e5 e6
          subst e3 e4 e5 e6
          have hk0 : (0 : Int) ≤ (k : Int) := by omega
          have hk1 : (k : Int) < (r.path.length : Int) := by omega
          have hi1 : (i : Int) < (r.path.length : Int) := by omega
          have hkl : k < r.path.length := by omega
          have HTK : Hid (r.path.take (k + 1) = r.path.take k ++ [y]) := Lib.hid (by rw [List.take_add_one, hy]; rfl)
          have HYM : Hid (y ∈ r.path.take i) := Lib.hid (List.mem_of_getElem? (i := k) (by rw [List.getElem?_take, if_pos hki]; exact hy))
          clear hy hB hB2
          by_cases hxy : x = y
          · have HF := Lib.hid (HDU.out (by rw [hxy]; exact HYM.out))
            have bx : (x == y) = true := by simp [hxy]
            clear hxy
            go_wp2_with fail
            go_quiet (fail)
            go_wp2
            go_ret
            exact ⟨ret_bool HF.out, B0.out.trans ((below_drewN' WY.out _).mono B0.out.size)⟩
          · have bx : (x == y) = false := by simp [hxy]
            have HNN := Lib.hid (show x ∉ r.path.take (k + 1) from by
              rw [HTK.out, List.mem_append]
              rintro (h | h)
              · exact HNO.out h
              · simp at h; exact hxy h)
            clear hxy
            go_wp2_with fail
            go_quiet (fail)
            go_wp2
            go_roundw
            case rel => exact ⟨k + 1, by omega, by go_num, HNN.out, below_drewN' WY.out _⟩
            case measure => simp [intOf]; omega
        · obtain rfl : k = i := by omega
          have HG2 := Lib.hid (show ∀ y ∈ r.path.take (k + 1), badNum y = false from by
            rw [HT.out]
            intro y hy
            rcases List.mem_append.1 hy with h | h
            · exact HG.out y h
            · simp at h; rw [h]; exact HXG.out)
          have HN2 := Lib.hid (show (r.path.take (k + 1)).Nodup from by
            rw [HT.out, List.nodup_append]
            refine ⟨HN.out, by simp, fun a ha b hb e => ?_⟩
            simp at hb
            exact HNO.out (by rw [← hb, ← e]; exact ha))
          clear hB hB2
          go_wp2
          go_roundw
          case rel => exact ⟨k + 1, by omega, by omega, by go_num, HG2.out, HN2.out, WY.out⟩
          case measure => simp [intOf]; omega
    · have HEX : Hid (listB r.path = decide (r.path.length ≤ 12)) := Lib.hid (by
        by_cases h1 : i = r.path.length
        · refine listB_ok ?_ ?_
          · have := HG.out; rwa [h1, List.take_length] at this
          · have := HN.out; rwa [h1, List.take_length] at this
        · have h2 : ¬ r.path.length ≤ 12 := by omega
          unfold listB
          simp [h2])
      have HB := Lib.hid (B0.out.trans (WX.out.mono B0.out.size))
      have hx : (i < r.path.length ∧ ¬ (i : Int) < 13) ∨ ¬ i < r.path.length := by
        by_cases h1 : i < r.path.length
        · exact .inl ⟨h1, fun h => hlt ⟨h1, h⟩⟩
        · exact .inr h1
      clear hB hlt
      rcases hx with ⟨h1, h2⟩ | h1 <;> (
        by_cases k0 : r.kind = 0
        · have b0 : (r.kind == 0) = true := by simp [k0]
          by_cases c0 : r.cost = 0
          · have d0 : (r.cost == 0) = true := by simp [c0]
            by_cases n0 : r.path.length = 0
            · have e0 : ((r.path.length : Int) == 0) = true := by simp [n0]
              have HF := Lib.hid (show true = rtRightB r from by unfold rtRightB; simp [k0, c0, n0])
              first
              | (exfalso; omega)
              | (clear k0 c0 n0; go_wp2; go_ret; exact ⟨ret_bool HF.out, HB.out⟩)
            · have e0 : ((r.path.length : Int) == 0) = false := by rw [beq_eq_false_iff_ne]; omega
              have HF := Lib.hid (show false = rtRightB r from by unfold rtRightB; simp [k0, n0])
              clear k0 c0 n0
              go_wp2
              go_ret
              exact ⟨ret_bool HF.out, HB.out⟩
          · have d0 : (r.cost == 0) = false := by simp [c0]
            have HF := Lib.hid (show false = rtRightB r from by unfold rtRightB; simp [k0, c0])
            clear k0 c0
            go_wp2
            go_ret
            exact ⟨ret_bool HF.out, HB.out⟩
        · have b0 : (r.kind == 0) = false := by simp [k0]
          by_cases k1 : r.kind = 1
          · have b1 : (r.kind == 1) = true := by simp [k1]
            by_cases c0 : 0 ≤ r.cost
            · have d0 : decide (0 ≤ r.cost) = true := decide_eq_true c0
              by_cases c1 : r.cost ≤ 15
              · have d1 : decide (r.cost ≤ 15) = true := decide_eq_true c1
                by_cases n0 : r.path.length = 0
                · have e0 : ((r.path.length : Int) == 0) = true := by simp [n0]
                  have HF := Lib.hid (show true = rtRightB r from by unfold rtRightB; simp [k1, c0, c1, n0])
                  first
                  | (exfalso; omega)
                  | (clear k0 k1 n0; go_wp2; go_ret; exact ⟨ret_bool HF.out, HB.out⟩)
                · have e0 : ((r.path.length : Int) == 0) = false := by rw [beq_eq_false_iff_ne]; omega
                  have HF := Lib.hid (show false = rtRightB r from by unfold rtRightB; simp [k1, n0])
                  clear k0 k1 n0
                  go_wp2
                  go_ret
                  exact ⟨ret_bool HF.out, HB.out⟩
              · have d1 : decide (r.cost ≤ 15) = false := decide_eq_false c1
                have HF := Lib.hid (show false = rtRightB r from by unfold rtRightB; simp [k1, c1])
                clear k0 k1
                go_wp2
                go_ret
                exact ⟨ret_bool HF.out, HB.out⟩
            · have d0 : decide (0 ≤ r.cost) = false := decide_eq_false c0
              have HF := Lib.hid (show false = rtRightB r from by unfold rtRightB; simp [k1, c0])
              clear k0 k1
              go_wp2
              go_ret
              exact ⟨ret_bool HF.out, HB.out⟩
          · have b1 : (r.kind == 1) = false := by simp [k1]
            by_cases k2 : r.kind = 2
            · have b2 : (r.kind == 2) = true := by simp [k2]
              by_cases c0 : r.cost = 0
              · have d0 : (r.cost == 0) = true := by simp [c0]
                by_cases n0 : r.path.length ≤ 12
                · have e0 : decide ((r.path.length : Int) ≤ 12) = true := decide_eq_true (by omega)
                  have e1 : decide (r.path.length ≤ 12) = true := decide_eq_true n0
                  have HF := Lib.hid (show true = rtRightB r from by unfold rtRightB; rw [HEX.out]; simp [k2, c0, n0])
                  first
                  | (exfalso; omega)
                  | (clear k0 k1 k2 c0; go_wp2; go_ret; exact ⟨ret_bool HF.out, HB.out⟩)
                · have e0 : decide ((r.path.length : Int) ≤ 12) = false := decide_eq_false (by omega)
                  have e1 : decide (r.path.length ≤ 12) = false := decide_eq_false n0
                  have HF := Lib.hid (show false = rtRightB r from by unfold rtRightB; rw [HEX.out]; simp [k2, c0, n0])
                  clear k0 k1 k2 c0
                  go_wp2
                  go_ret
                  exact ⟨ret_bool HF.out, HB.out⟩
              · have d0 : (r.cost == 0) = false := by simp [c0]
                have HF := Lib.hid (show false = rtRightB r from by unfold rtRightB; simp [k2, c0])
                clear k0 k1 k2 c0
                go_wp2
                go_ret
                exact ⟨ret_bool HF.out, HB.out⟩
            · have b2 : (r.kind == 2) = false := by simp [k2]
              have HF := Lib.hid (show false = rtRightB r from by unfold rtRightB; simp [k0, k1, k2])
              clear k0 k1 k2
              go_wp2
              go_ret
              exact ⟨ret_bool HF.out, HB.out⟩)

/-- The first of those than which no later one is better, as the document seeks it. -/
def rbestZ (m x : RtZ) : RtZ := if rbetB x.1 m.1 then x else m
def rbestL : List RtZ → RtZ
  | [] => (rtNone, (none, 0))
  | z :: L => L.foldl rbestZ z
theorem rbestL_snoc {L : List RtZ} {x : RtZ} (h : L ≠ []) : rbestL (L ++ [x]) = rbestZ (rbestL L) x := by
  cases L with
  | nil => exact absurd rfl h
  | cons z L => simp [rbestL]
theorem rbestF_mem : ∀ (L : List RtZ) (z : RtZ), L.foldl rbestZ z = z ∨ L.foldl rbestZ z ∈ L
  | [], _ => .inl rfl
  | x :: L, z => by
    simp only [List.foldl_cons]
    rcases rbestF_mem L (rbestZ z x) with h | h
    · rw [h]
      unfold rbestZ
      split
      · exact .inr (by simp)
      · exact .inl rfl
    · exact .inr (List.mem_cons_of_mem _ h)
theorem rbestL_mem (L : List RtZ) : rbestL L = (rtNone, (none, 0)) ∨ rbestL L ∈ L := by
  cases L with
  | nil => exact .inl rfl
  | cons z L =>
    rcases rbestF_mem L z with h | h
    · exact .inr (by show L.foldl rbestZ z ∈ z :: L; rw [h]; simp)
    · exact .inr (List.mem_cons_of_mem _ h)
theorem rbestF_fst : ∀ (L : List RtZ) (z : RtZ), KindOk z.1 → (∀ x ∈ L, KindOk x.1) → (L.foldl rbestZ z).1 = (L.map (·.1)).foldl bestStepR z.1
  | [], _, _, _ => rfl
  | x :: L, z, hz, hL => by
    simp only [List.foldl_cons, List.map_cons]
    have hx := hL x (by simp)
    have e : (rbestZ z x).1 = bestStepR z.1 x.1 := by unfold rbestZ bestStepR; rw [rbet_eq hx hz]; split <;> rfl
    have hk : KindOk (rbestZ z x).1 := by unfold rbestZ; split <;> assumption
    rw [rbestF_fst L _ hk (fun y hy => hL y (List.mem_cons_of_mem _ hy)), e]
theorem rbestL_fst {L : List RtZ} (h : ∀ x ∈ L, KindOk x.1) : (rbestL L).1 = bestR (L.map (·.1)) := by
  cases L with
  | nil => rfl
  | cons z L => exact rbestF_fst L z (h z (by simp)) (fun x hx => h x (List.mem_cons_of_mem _ hx))
theorem rtR_none {w : World} {B : Nat} {k c : Int} : RtR w B ⟨k, c, []⟩ none 0 := ⟨Rd.nil _, Nat.le_refl _, by simp [maxLen]⟩
theorem rbestL_rt {w : World} {L : List RtZ} {A : Option Addr} (h : RtsR w w.heap.size L A) : RtR w w.heap.size (rbestL L).1 (rbestL L).2.1 (rbestL L).2.2 := by
  rcases rbestL_mem L with e | e
  · rw [e]; exact rtR_none
  · exact h.each _ e
set_option maxRecDepth 100000 in
set_option maxHeartbeats 4000000 in
theorem refBest_any (L : List RtZ) (A : Option Addr) (c : Nat) (w : World) (h : RtsR w w.heap.size L A) (hl : L.length ≤ 1000) :
    Calls Tryz.prog 54 #[.slice A L.length c] w fun e w' => e = .returned (.agg #[.int .i64 (rbestL L).1.kind, .int .i64 (rbestL L).1.cost, .slice (rbestL L).2.1 (rbestL L).1.path.length (rbestL L).2.2]) ∧ Below w.heap.size w w' := by
  have HH := Lib.hid h
  have M0 : Hid (MinW w ((w.alloc (.cells #[.int .i64 0, .int .i64 0, .slice none 0 0] 48)).alloc (.cells #[.int .i64 0, .int .i64 0, .slice none 0 0] 48)) ((rtNone, (none, 0)) : RtZ)) := Lib.hid (MinW.begin (y := ((rtNone, (none, 0)) : RtZ)))
  clear h
  go_enter Tryz.func54, Tryz.ntmps54
  go_wp2_with fail
  go_loopw [4] (fun si wx => ∃ k : Nat, k ≤ L.length ∧ si = .int .i64 k ∧ MinW w wx (rbestL (L.take k))) (fun si _ => L.length - (intOf si).toNat)
  case atStart => exact ⟨0, Nat.zero_le _, rfl, M0.out⟩
  case round =>
    obtain ⟨k, hk, rfl, hM⟩ := hrel
    have HR : Hid (RtR w w.heap.size (rbestL (L.take k)).1 (rbestL (L.take k)).2.1 (rbestL (L.take k)).2.2) := Lib.hid (by
      rcases rbestL_mem (L.take k) with e | e
      · rw [e]; exact rtR_none
      · exact HH.out.each _ (List.mem_of_mem_take e))
    by_cases hlt : k < L.length
    · obtain ⟨x, hx⟩ : ∃ x, L[k]? = some x := ⟨_, List.getElem?_eq_getElem hlt⟩
      have hts : L.take (k + 1) = L.take k ++ [x] := by rw [List.take_add_one, hx]; rfl
      obtain ⟨b, o, rfl, hb, g0, g1, g2⟩ := HH.out.at_ hx
      have HX := Lib.hid (HH.out.each x (List.mem_of_getElem? hx))
      have HN : Hid ((k = 0 → rbestL (L.take (k + 1)) = x) ∧ (k ≠ 0 → rbestL (L.take (k + 1)) = rbestZ (rbestL (L.take k)) x)) := Lib.hid ⟨fun e => by
        rw [hts, e]; rfl, fun e => by
        rw [hts]
        refine rbestL_snoc (fun h0 => ?_)
        have := congrArg List.length h0
        rw [List.length_take, List.length_nil] at this
        omega⟩
      generalize hy : rbestL (L.take k) = y at *
      generalize hn : rbestL (L.take (k + 1)) = yn at *
      have EN := Lib.hid hn
      have HC : Hid (∀ wy, MinW w wy y → (wy.cell? ⟨b, o + k * 3, none⟩ = some (.int .i64 x.1.kind) ∧ wy.cell? ⟨b, o + k * 3 + 1, none⟩ = some (.int .i64 x.1.cost) ∧ wy.cell? ⟨b, o + k * 3 + 2, none⟩ = some (.slice x.2.1 x.1.path.length x.2.2)) ∧ wy.cell? ⟨w.heap.size + 1, 0, none⟩ = some (.int .i64 y.1.kind) ∧ wy.cell? ⟨w.heap.size + 1, 1, none⟩ = some (.int .i64 y.1.cost) ∧ wy.cell? ⟨w.heap.size + 1, 2, none⟩ = some (.slice y.2.1 y.1.path.length y.2.2)) := Lib.hid (fun wy a =>
        ⟨⟨(a.below.cell (p := ⟨b, _, none⟩) hb).trans g0, (a.below.cell (p := ⟨b, _, none⟩) hb).trans g1, (a.below.cell (p := ⟨b, _, none⟩) hb).trans g2⟩, a.at_⟩)
      have CB : Hid (∀ wy, MinW w wy y → Calls Tryz.prog 80 #[.agg #[.int .i64 x.1.kind, .int .i64 x.1.cost, .slice x.2.1 x.1.path.length x.2.2], .agg #[.int .i64 y.1.kind, .int .i64 y.1.cost, .slice y.2.1 y.1.path.length y.2.2]] wy fun e w' => e = .returned (.bool (rbetB x.1 y.1)) ∧ MinW w w' y) := Lib.hid (fun wy a =>
        (refBetter_any x.1 y.1 x.2.1 y.2.1 x.2.2 y.2.2 wy ((HX.out.below a.below (Nat.le_refl _)).more a.below.size) ((HR.out.below a.below (Nat.le_refl _)).more a.below.size)).mono fun e w' ⟨h1, h2⟩ => ⟨h1, a.call h2⟩)
      have hk0 : (0 : Int) ≤ (k : Int) := by omega
      have hkl : (k : Int) < (L.length : Int) := by omega
      have hMd := hM.call (below_drew (Below.refl wr.heap.size wr))
      clear hx hts g0 g1 g2 hb hy hn hM
      go_upto_region 5 with fail
      by_cases h0 : k = 0
      · have hq : ((k : Int) == 0) = true := by simp [h0]
        have HS := Lib.hid (hMd.set x)
        have EX := Lib.hid (HN.out.1 h0)
        clear h0
        refine wp_region_held_drew (S := (fun wy => (wy.cell? ⟨b, o + k * 3, none⟩ = some (.int .i64 x.1.kind) ∧ wy.cell? ⟨b, o + k * 3 + 1, none⟩ = some (.int .i64 x.1.cost) ∧ wy.cell? ⟨b, o + k * 3 + 2, none⟩ = some (.slice x.2.1 x.1.path.length x.2.2)) ∧ wy.cell? ⟨w.heap.size + 1, 0, none⟩ = some (.int .i64 y.1.kind) ∧ wy.cell? ⟨w.heap.size + 1, 1, none⟩ = some (.int .i64 y.1.cost) ∧ wy.cell? ⟨w.heap.size + 1, 2, none⟩ = some (.slice y.2.1 y.1.path.length y.2.2))) (by kernel_rfl) (HC.out _ hMd) (fun hHeld0 => ?_)
        refine take_list (i := 0) (v := ?_) rfl (by kernel_rfl) (by kernel_rfl) (by kernel_rfl) (fun _ _ _ h => h) (Or.inl ⟨by rfl, ?_⟩) (by assumption) ?_
        rotate_left
        · (intro w hSw; (try dsimp only at hSw); go_simp; try (with_reducible rfl))
        try simp only [Act.put, List.setIfInBounds_toArray, List.set_cons_zero, List.set_cons_succ]
        refine take_list (i := 1) (v := ?_) rfl (by kernel_rfl) (by kernel_rfl) (by kernel_rfl) (fun _ _ _ h => h) (Or.inl ⟨by rfl, ?_⟩) (by assumption) ?_
        rotate_left
        · (intro w hSw; (try dsimp only at hSw); go_simp; try (with_reducible rfl))
        try simp only [Act.put, List.setIfInBounds_toArray, List.set_cons_zero, List.set_cons_succ]
        refine take_list (i := 2) (v := ?_) rfl (by kernel_rfl) (by kernel_rfl) (by kernel_rfl) (fun _ _ _ h => h) (Or.inl ⟨by rfl, ?_⟩) (by assumption) ?_
        rotate_left
        · (intro w hSw; (try dsimp only at hSw); go_simp; try (with_reducible rfl))
        try simp only [Act.put, List.setIfInBounds_toArray, List.set_cons_zero, List.set_cons_succ]
        refine take_list (i := 3) (v := undef) rfl (by kernel_rfl) (by kernel_rfl) (by kernel_rfl) (fun _ _ _ h => h) (Or.inr ⟨by rfl, rfl⟩) (by assumption) ?_
        try simp only [Act.put, List.setIfInBounds_toArray, List.set_cons_zero, List.set_cons_succ]
        refine take_list (i := 4) (v := undef) rfl (by kernel_rfl) (by kernel_rfl) (by kernel_rfl) (fun _ _ _ h => h) (Or.inr ⟨by rfl, rfl⟩) (by assumption) ?_
        try simp only [Act.put, List.setIfInBounds_toArray, List.set_cons_zero, List.set_cons_succ]
        refine take_list (i := 5) (v := undef) rfl (by kernel_rfl) (by kernel_rfl) (by kernel_rfl) (fun _ _ _ h => h) (Or.inr ⟨by rfl, rfl⟩) (by assumption) ?_
        try simp only [Act.put, List.setIfInBounds_toArray, List.set_cons_zero, List.set_cons_succ]
        refine take_list (i := 6) (v := undef) rfl (by kernel_rfl) (by kernel_rfl) (by kernel_rfl) (fun _ _ _ h => h) (Or.inr ⟨by rfl, rfl⟩) (by assumption) ?_
        try simp only [Act.put, List.setIfInBounds_toArray, List.set_cons_zero, List.set_cons_succ]
        refine take_list (i := 7) (v := undef) rfl (by kernel_rfl) (by kernel_rfl) (by kernel_rfl) (fun _ _ _ h => h) (Or.inr ⟨by rfl, rfl⟩) (by assumption) ?_
        try simp only [Act.put, List.setIfInBounds_toArray, List.set_cons_zero, List.set_cons_succ]
        refine take_list (i := 8) (v := undef) rfl (by kernel_rfl) (by kernel_rfl) (by kernel_rfl) (fun _ _ _ h => h) (Or.inr ⟨by rfl, rfl⟩) (by assumption) ?_
        try simp only [Act.put, List.setIfInBounds_toArray, List.set_cons_zero, List.set_cons_succ]
        refine take_list (i := 9) (v := ?_) rfl (by kernel_rfl) (by kernel_rfl) (by kernel_rfl) (fun _ _ _ h => h) (Or.inl ⟨by rfl, ?_⟩) (by assumption) ?_
        rotate_left
        · (intro w hSw; (try dsimp only at hSw); go_simp; try (with_reducible rfl))
        try simp only [Act.put, List.setIfInBounds_toArray, List.set_cons_zero, List.set_cons_succ]
        refine wpAnyH_done (by kernel_rfl) ?_ _
        clear hHeld0
        generalize wr.drew = wd at *
        obtain ⟨⟨x0, x1, x2⟩, m0, m1, m2⟩ := HC.out _ hMd
        have mf0 := hMd.free 0
        have mf1 := hMd.free 1
        have mf2 := hMd.free 2
        clear hMd
        go_wp2
        go_roundw
        case rel => exact ⟨k + 1, by omega, by go_num, by rw [EN.out, EX.out]; exact HS.out⟩
        case measure => simp [intOf]; omega
      · have hq : ((k : Int) == 0) = false := by simp; omega
        have EX := Lib.hid (HN.out.2 h0)
        clear h0
        refine wp_region_held_drew (S := (fun wy => (wy.cell? ⟨b, o + k * 3, none⟩ = some (.int .i64 x.1.kind) ∧ wy.cell? ⟨b, o + k * 3 + 1, none⟩ = some (.int .i64 x.1.cost) ∧ wy.cell? ⟨b, o + k * 3 + 2, none⟩ = some (.slice x.2.1 x.1.path.length x.2.2)) ∧ wy.cell? ⟨w.heap.size + 1, 0, none⟩ = some (.int .i64 y.1.kind) ∧ wy.cell? ⟨w.heap.size + 1, 1, none⟩ = some (.int .i64 y.1.cost) ∧ wy.cell? ⟨w.heap.size + 1, 2, none⟩ = some (.slice y.2.1 y.1.path.length y.2.2))) (by kernel_rfl) (HC.out _ hMd) (fun hHeld0 => ?_)
        refine take_list (i := 0) (v := ?_) rfl (by kernel_rfl) (by kernel_rfl) (by kernel_rfl) (fun _ _ _ h => h) (Or.inl ⟨by rfl, ?_⟩) (by assumption) ?_
        rotate_left
        · (intro w hSw; (try dsimp only at hSw); go_simp; try (with_reducible rfl))
        try simp only [Act.put, List.setIfInBounds_toArray, List.set_cons_zero, List.set_cons_succ]
        refine take_list (i := 1) (v := ?_) rfl (by kernel_rfl) (by kernel_rfl) (by kernel_rfl) (fun _ _ _ h => h) (Or.inl ⟨by rfl, ?_⟩) (by assumption) ?_
        rotate_left
        · (intro w hSw; (try dsimp only at hSw); go_simp; try (with_reducible rfl))
        try simp only [Act.put, List.setIfInBounds_toArray, List.set_cons_zero, List.set_cons_succ]
        refine take_list (i := 2) (v := ?_) rfl (by kernel_rfl) (by kernel_rfl) (by kernel_rfl) (fun _ _ _ h => h) (Or.inl ⟨by rfl, ?_⟩) (by assumption) ?_
        rotate_left
        · (intro w hSw; (try dsimp only at hSw); go_simp; try (with_reducible rfl))
        try simp only [Act.put, List.setIfInBounds_toArray, List.set_cons_zero, List.set_cons_succ]
        refine take_list (i := 3) (v := ?_) rfl (by kernel_rfl) (by kernel_rfl) (by kernel_rfl) (fun _ _ _ h => h) (Or.inl ⟨by rfl, ?_⟩) (by assumption) ?_
        rotate_left
        · (intro w hSw; (try dsimp only at hSw); go_simp; try (with_reducible rfl))
        try simp only [Act.put, List.setIfInBounds_toArray, List.set_cons_zero, List.set_cons_succ]
        refine take_list (i := 4) (v := ?_) rfl (by kernel_rfl) (by kernel_rfl) (by kernel_rfl) (fun _ _ _ h => h) (Or.inl ⟨by rfl, ?_⟩) (by assumption) ?_
        rotate_left
        · (intro w hSw; (try dsimp only at hSw); go_simp; try (with_reducible rfl))
        try simp only [Act.put, List.setIfInBounds_toArray, List.set_cons_zero, List.set_cons_succ]
        refine take_list (i := 5) (v := ?_) rfl (by kernel_rfl) (by kernel_rfl) (by kernel_rfl) (fun _ _ _ h => h) (Or.inl ⟨by rfl, ?_⟩) (by assumption) ?_
        rotate_left
        · (intro w hSw; (try dsimp only at hSw); go_simp; try (with_reducible rfl))
        try simp only [Act.put, List.setIfInBounds_toArray, List.set_cons_zero, List.set_cons_succ]
        refine take_list (i := 6) (v := ?_) rfl (by kernel_rfl) (by kernel_rfl) (by kernel_rfl) (fun _ _ _ h => h) (Or.inl ⟨by rfl, ?_⟩) (by assumption) ?_
        rotate_left
        · (intro w hSw; (try dsimp only at hSw); go_simp; try (with_reducible rfl))
        try simp only [Act.put, List.setIfInBounds_toArray, List.set_cons_zero, List.set_cons_succ]
        refine take_list (i := 7) (v := ?_) rfl (by kernel_rfl) (by kernel_rfl) (by kernel_rfl) (fun _ _ _ h => h) (Or.inl ⟨by rfl, ?_⟩) (by assumption) ?_
        rotate_left
        · (intro w hSw; (try dsimp only at hSw); go_simp; try (with_reducible rfl))
        try simp only [Act.put, List.setIfInBounds_toArray, List.set_cons_zero, List.set_cons_succ]
        refine wpAnyH_ready (rs := [8]) (by kernel_rfl) (by simp) ?_
        refine cons_list rfl (fun K hK => ?_) AllReadyH.nil
        go_simp
        (go_at_call 80; refine (CB.out _ hMd).mono ?_; rintro e w2 ⟨rfl, hM2⟩)
        refine hK.out _ _ (HC.out _ (by assumption)) (fun hHeld1 => ?_)
        clear hK K hHeld0
        try simp only [Act.put, List.setIfInBounds_toArray, List.set_cons_zero, List.set_cons_succ]
        refine take_list (i := 9) (v := ?_) rfl (by kernel_rfl) (by kernel_rfl) (by kernel_rfl) (fun _ _ _ h => h) (Or.inl ⟨by rfl, ?_⟩) (by assumption) ?_
        rotate_left
        · (intro w hSw; (try dsimp only at hSw); go_simp; try (with_reducible rfl))
        try simp only [Act.put, List.setIfInBounds_toArray, List.set_cons_zero, List.set_cons_succ]
        refine wpAnyH_done (by kernel_rfl) ?_ _
        clear hHeld1
        obtain ⟨⟨x0, x1, x2⟩, m0, m1, m2⟩ := HC.out _ hM2
        have mf0 := hM2.free 0
        have mf1 := hM2.free 1
        have mf2 := hM2.free 2
        have HM2 := Lib.hid hM2
        cases hbt : rbetB x.1 y.1 with
        | true =>
          have HS := Lib.hid (hM2.set x)
          have EZ := Lib.hid (show rbestZ y x = x from by unfold rbestZ; rw [hbt]; rfl)
          clear hMd hM2 hbt
          go_wp2
          go_roundw
          case rel => exact ⟨k + 1, by omega, by go_num, by rw [EN.out, EX.out, EZ.out]; exact HS.out⟩
          case measure => simp [intOf]; omega
        | false =>
          have EZ := Lib.hid (show rbestZ y x = y from by unfold rbestZ; rw [hbt]; rfl)
          clear hMd hM2 hbt
          go_wp2
          go_roundw
          case rel => exact ⟨k + 1, by omega, by go_num, by rw [EN.out, EX.out, EZ.out]; exact HM2.out⟩
          case measure => simp [intOf]; omega
    · have hte : L.take k = L := List.take_of_length_le (by omega)
      rw [hte] at hM
      obtain ⟨y, hyl⟩ : ∃ y, rbestL L = y := ⟨_, rfl⟩
      rw [hyl] at hM
      have EY := Lib.hid hyl
      clear hyl
      obtain ⟨m0, m1, m2⟩ := hM.at_
      obtain ⟨r0, r1, r2⟩ := hM.resAt
      have rf0 := hM.resFree 0
      have rf1 := hM.resFree 1
      have rf2 := hM.resFree 2
      have HF := Lib.hid hM.answer
      clear hM hte
      go_wp2
      exact bodyPost_ret (v := .agg #[.int .i64 y.1.kind, .int .i64 y.1.cost, .slice y.2.1 y.1.path.length y.2.2]) (by simp [results, Tryz.results54, go_sem, m0, m1, m2, r0, r1, r2]) rfl ⟨by rw [EY.out], HF.out⟩
end Go.Proofs.YtakolnmoieiicaaGreat

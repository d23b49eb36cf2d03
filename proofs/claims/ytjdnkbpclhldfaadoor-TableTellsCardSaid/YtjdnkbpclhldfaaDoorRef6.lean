/- The document's own answers of layer 6: rank, Better, Right, Best. -/
import Derived.Test.YtjdnkbpclhldfaaDoorAttrX
import Derived.Test.YtjdnkbpclhldfaaDoorRegs
import Derived.Test.YtjdnkbpclhldfaaDoorAttrB
namespace Go.Proofs.YtjdnkbpclhldfaaDoor
set_option linter.unusedSimpArgs false
set_option linter.unusedVariables false
open Go.RowKit

def rkI (k : Int) : Int := Int.tmod (IntKind.i64.wrap (k + 2)) 3
/-- The first place at which two lists differ decides. -/
def ltI : List Int → List Int → Bool
  | x :: l, y :: m => if x = y then ltI l m else decide (x < y)
  | _, _ => false
theorem ltI_self : ∀ l : List Int, ltI l l = false
  | [] => rfl
  | x :: l => by unfold ltI; rw [if_pos rfl]; exact ltI_self l
theorem ltI_at : ∀ {l m : List Int} {k : Nat} {x y : Int}, l.take k = m.take k → l[k]? = some x → m[k]? = some y → x ≠ y → ltI l m = decide (x < y)
  | [], _, k, x, y, _, h, _, _ => by simp at h
  | _ :: _, [], k, x, y, _, _, h, _ => by simp at h
  | a :: l, b :: m, 0, x, y, _, h, h', hne => by
    simp at h h'
    subst h h'
    unfold ltI; rw [if_neg hne]
  | a :: l, b :: m, k + 1, x, y, ht, h, h', hne => by
    simp only [List.take_succ_cons, List.cons.injEq] at ht
    unfold ltI
    rw [if_pos ht.1]
    exact ltI_at ht.2 (by simpa using h) (by simpa using h') hne
theorem ltI_lex : ∀ {l m : List Int}, l.length = m.length → (ltI l m = true ↔ lexI l m = -1)
  | [], [], _ => by simp [ltI, lexI]
  | [], _ :: _, h => by simp at h
  | _ :: _, [], h => by simp at h
  | x :: l, y :: m, h => by
    have ih := ltI_lex (l := l) (m := m) (by simpa using h)
    unfold ltI lexI
    by_cases e : x = y
    · rw [if_pos e, if_neg (by rw [cmpI_zero.2 e]; simp)]; exact ih
    · rw [if_neg e, if_pos (fun h0 => e (cmpI_zero.1 h0)), cmpI_neg, decide_eq_true_eq]
def rbetB (a b : Rt) : Bool := if a.kind = b.kind then (if a.cost = b.cost then (if a.path.length = b.path.length then ltI a.path b.path else decide (a.path.length < b.path.length)) else decide (a.cost < b.cost)) else decide (rkI a.kind < rkI b.kind)
def KindOk (r : Rt) : Prop := r.kind = 0 ∨ r.kind = 1 ∨ r.kind = 2
theorem rk_rank {k m : Int} (hk : k = 0 ∨ k = 1 ∨ k = 2) (hm : m = 0 ∨ m = 1 ∨ m = 2) : (rkI k < rkI m ↔ rankI m < rankI k) ∧ (rankI m = rankI k ↔ k = m) := by
  have h0 : rkI 0 = 2 := by decide
  have h1 : rkI 1 = 0 := by decide
  have h2 : rkI 2 = 1 := by decide
  rcases hk with rfl | rfl | rfl <;> rcases hm with rfl | rfl | rfl <;> simp [h0, h1, h2, rankI]
theorem rbet_eq {a b : Rt} (ha : KindOk a) (hb : KindOk b) : rbetB a b = betterB a b := by
  have ⟨h1, h2⟩ := rk_rank ha hb
  rw [Bool.eq_iff_iff]
  unfold betterB
  rw [decide_eq_true_eq, cmpR_neg]
  unfold rbetB ltR
  by_cases hk : a.kind = b.kind
  · rw [if_pos hk]
    have e := h2.2 hk
    by_cases hc : a.cost = b.cost
    · rw [if_pos hc]
      by_cases hl : a.path.length = b.path.length
      · rw [if_pos hl, ltI_lex hl]
        constructor
        · intro h; exact .inr ⟨e, .inr ⟨hc, .inr ⟨hl, h⟩⟩⟩
        · rintro (h | ⟨-, h | ⟨-, h | ⟨-, h⟩⟩⟩)
          · omega
          · omega
          · omega
          · exact h
      · rw [if_neg hl, decide_eq_true_eq]
        constructor
        · intro h; exact .inr ⟨e, .inr ⟨hc, .inl h⟩⟩
        · rintro (h | ⟨-, h | ⟨-, h | ⟨h, -⟩⟩⟩)
          · omega
          · omega
          · exact h
          · exact absurd h hl
    · rw [if_neg hc, decide_eq_true_eq]
      constructor
      · intro h; exact .inr ⟨e, .inl h⟩
      · rintro (h | ⟨-, h | ⟨h, -⟩⟩)
        · omega
        · exact h
        · exact absurd h hc
  · rw [if_neg hk, decide_eq_true_eq, h1]
    constructor
    · intro h; exact .inl h
    · rintro (h | ⟨h, -⟩)
      · exact h
      · exact absurd (h2.1 h) hk

theorem TwoW.kinds {w wr : World} {a b : Rt} {A A' : Option Addr} {c c' : Nat} (h : TwoW w wr a b A A' c c') : wr.cell? ⟨w.heap.size, 0, none⟩ = some (.int .i64 a.kind) ∧ wr.cell? ⟨w.heap.size + 1, 0, none⟩ = some (.int .i64 b.kind) :=
  ⟨cell_of_row wr _ 0 _ _ _ h.a, cell_of_row wr _ 0 _ _ _ h.b⟩
attribute [local go_sem ↓] Go.wp_at_zero Go.wp_at_succ
theorem listB_bad {l : List Int} {x : Int} (h : x ∈ l) (hb : badNum x = true) : listB l = false := by
  unfold listB
  have : l.any badNum = true := List.any_eq_true.2 ⟨x, h, hb⟩
  simp [this]
theorem listB_dup {l : List Int} (h : ¬ l.Nodup) : listB l = false := by unfold listB; simp [h]
theorem listB_ok {l : List Int} (h1 : ∀ y ∈ l, badNum y = false) (h2 : l.Nodup) : listB l = decide (l.length ≤ 12) := by
  have : l.any badNum = false := by rw [List.any_eq_false]; intro y hy; simp [h1 y hy]
  unfold listB
  simp [this, h2]
theorem rr_bad {r : Rt} (hp : r.path.length ≠ 0) (hb : listB r.path = false) : rtRightB r = false := by
  unfold rtRightB
  rw [hb]
  split
  · simp [hp]
  · split
    · simp [hp]
    · split <;> simp
set_option maxRecDepth 100000 in
set_option maxHeartbeats 4000000 in
theorem refRight_any (r : Rt) (A : Option Addr) (c : Nat) (w : World) (h : RtR w w.heap.size r A c) :
    Calls Tryd.prog 25 #[rtV r A c] w fun e w' => e = .returned (.bool (rtRightB r)) ∧ Below w.heap.size w w' := by
  have hl : r.path.length ≤ maxLen := Nat.le_trans h.2.1 h.2.2
  unfold maxLen at hl
  have BX := Lib.hid (Box.new h)
  have B0 := Lib.hid ((Below.refl w.heap.size w).alloc (Nat.le_refl _) (.cells #[.int .i64 r.kind, .int .i64 r.cost, .slice A r.path.length c] 25))
  clear h
  unfold rtV
  go_enter Tryd.func25, Tryd.ntmps25
  go_wp2_with fail
  generalize (w.alloc (.cells #[.int .i64 r.kind, .int .i64 r.cost, .slice A r.path.length c] 25)) = w1 at *
  obtain ⟨q0, q1, q2⟩ := BX.out.at_
  go_loopw [3] (fun si wx => ∃ i : Nat, i ≤ r.path.length ∧ i ≤ 13 ∧ si = .int .i64 i ∧ (∀ y ∈ r.path.take i, badNum y = false) ∧ (r.path.take i).Nodup ∧ Below w1.heap.size w1 wx) (fun si _ => 13 - (intOf si).toNat)
  case atStart => exact ⟨0, Nat.zero_le _, by omega, rfl, by simp, by simp, Below.refl _ _⟩
  case round =>
    obtain ⟨i, hi, hi13, rfl, hgood, hnd, hB⟩ := hrel
    have HG := Lib.hid hgood
    have HN := Lib.hid hnd
    have WX := Lib.hid hB
    have X1 := Lib.hid (BX.out.call hB)
    clear hgood hnd q0 q1 q2
    obtain ⟨q0, q1, q2⟩ := X1.out.at_
    by_cases hlt : i < r.path.length ∧ (i : Int) < 13
    · obtain ⟨hlt, h13⟩ := hlt
      obtain ⟨x, hx⟩ : ∃ x, r.path[i]? = some x := ⟨_, List.getElem?_eq_getElem hlt⟩
      obtain ⟨b, o, rfl, hb, hc⟩ := X1.out.rt.1.one (i := i) (x := .int .i64 x) (by simp [ints, hx])
      have HT : Hid (r.path.take (i + 1) = r.path.take i ++ [x]) := Lib.hid (by rw [List.take_add_one, hx]; rfl)
      have HX := Lib.hid hx
      have hi0 : (0 : Int) ≤ (i : Int) := by omega
      have HBD : Hid (badNum x = true → false = rtRightB r) := Lib.hid (fun hb => (rr_bad (by omega) (listB_bad (List.mem_of_getElem? HX.out) hb)).symm)
      have HDU : Hid (x ∈ r.path.take i → false = rtRightB r) := Lib.hid (fun hm => (rr_bad (by omega) (listB_dup (fun hn => by
        have h1 := hn.sublist (List.take_sublist (i + 1) r.path)
        rw [HT.out, List.nodup_append] at h1
        exact absurd rfl (h1.2.2 x hm x (by simp))))).symm)
      clear hx
      by_cases hlo : x < 1
      · have HF := Lib.hid (HBD.out (by simp [badNum]; omega))
        go_wp2
        go_ret
        exact ⟨ret_bool HF.out, B0.out.trans (WX.out.mono B0.out.size)⟩
      by_cases hhi : 65535 < x
      · have HF := Lib.hid (HBD.out (by simp [badNum]; omega))
        go_wp2
        go_ret
        exact ⟨ret_bool HF.out, B0.out.trans (WX.out.mono B0.out.size)⟩
      have HXG := Lib.hid (show badNum x = false from by simp [badNum]; omega)
      go_wp2_with fail
      clear q0 q1 q2 hc
      go_loopw [4] (fun sk wy => ∃ k : Nat, k ≤ i ∧ sk = .int .i64 k ∧ x ∉ r.path.take k ∧ Below w1.heap.size w1 wy) (fun sk _ => i - (intOf sk).toNat)
      case atStart => exact ⟨0, Nat.zero_le _, rfl, by simp, WX.out⟩
      case round =>
        obtain ⟨k, hk, rfl, hnot, hB2⟩ := hrel
        have WY := Lib.hid hB2
        have HNO := Lib.hid hnot
        have X2 := Lib.hid (BX.out.call hB2)
        obtain ⟨q0, q1, q2⟩ := X2.out.at_
        clear hnot
        by_cases hki : k < i
        · obtain ⟨y, hy⟩ : ∃ y, r.path[k]? = some y := ⟨_, List.getElem?_eq_getElem (by omega)⟩
          obtain ⟨b1, o1, e1, hb1, hc1⟩ := X2.out.rt.1.one (i := i) (x := .int .i64 x) (by simp [ints, HX.out])
          obtain ⟨b2, o2, e2, hb2, hc2⟩ := X2.out.rt.1.one (i := k) (x := .int .i64 y) (by simp [ints, hy])
          injection e1 with e1
          injection e1 with e3 e4
          injection e2 with e2
          injection e2 with e5 e6
          subst e3 e4 e5 e6
          have hk0 : (0 : Int) ≤ (k : Int) := by omega
          have hk1 : (k : Int) < (r.path.length : Int) := by omega
          have hi1 : (i : Int) < (r.path.length : Int) := by omega
          have hkl : k < r.path.length := by omega
          have HTK : Hid (r.path.take (k + 1) = r.path.take k ++ [y]) := Lib.hid (by rw [List.take_add_one, hy]; rfl)
          have HYM : Hid (y ∈ r.path.take i) := Lib.hid (List.mem_of_getElem? (i := k) (by rw [List.getElem?_take, if_pos hki]; exact hy))
          clear hy hB hB2
          by_cases hxy : x = y
          · have HF := Lib.hid (HDU.out (by rw [hxy]; exact HYM.out))
            have bx : (x == y) = true := by simp [hxy]
            clear hxy
            go_wp2_with fail
            go_quiet (fail)
            go_wp2
            go_ret
            exact ⟨ret_bool HF.out, B0.out.trans ((below_drewN' WY.out _).mono B0.out.size)⟩
          · have bx : (x == y) = false := by simp [hxy]
            have HNN := Lib.hid (show x ∉ r.path.take (k + 1) from by
              rw [HTK.out, List.mem_append]
              rintro (h | h)
              · exact HNO.out h
              · simp at h; exact hxy h)
            clear hxy
            go_wp2_with fail
            go_quiet (fail)
            go_wp2
            go_roundw
            case rel => exact ⟨k + 1, by omega, by go_num, HNN.out, below_drewN' WY.out _⟩
            case measure => simp [intOf]; omega
        · obtain rfl : k = i := by omega
          have HG2 := Lib.hid (show ∀ y ∈ r.path.take (k + 1), badNum y = false from by
            rw [HT.out]
            intro y hy
            rcases List.mem_append.1 hy with h | h
            · exact HG.out y h
            · simp at h; rw [h]; exact HXG.out)
          have HN2 := Lib.hid (show (r.path.take (k + 1)).Nodup from by
            rw [HT.out, List.nodup_append]
            refine ⟨HN.out, by simp, fun a ha b hb e => ?_⟩
            simp at hb
            exact HNO.out (by rw [← hb, ← e]; exact ha))
          clear hB hB2
          go_wp2
          go_roundw
          case rel => exact ⟨k + 1, by omega, by omega, by go_num, HG2.out, HN2.out, WY.out⟩
          case measure => simp [intOf]; omega
    · have HEX : Hid (listB r.path = decide (r.path.length ≤ 12)) := Lib.hid (by
        by_cases h1 : i = r.path.length
        · refine listB_ok ?_ ?_
          · have := HG.out; rwa [h1, List.take_length] at this
          · have := HN.out; rwa [h1, List.take_length] at this
        · have h2 : ¬ r.path.length ≤ 12 := by omega
          unfold listB
          simp [h2])
      have HB := Lib.hid (B0.out.trans (WX.out.mono B0.out.size))
      have hx : (i < r.path.length ∧ ¬ (i : Int) < 13) ∨ ¬ i < r.path.length := by
        by_cases h1 : i < r.path.length
        · exact .inl ⟨h1, fun h => hlt ⟨h1, h⟩⟩
        · exact .inr h1
      clear hB hlt
      rcases hx with ⟨h1, h2⟩ | h1 <;> (
        by_cases k0 : r.kind = 0
        · have b0 : (r.kind == 0) = true := by simp [k0]
          by_cases c0 : r.cost = 0
          · have d0 : (r.cost == 0) = true := by simp [c0]
            by_cases n0 : r.path.length = 0
            · have e0 : ((r.path.length : Int) == 0) = true := by simp [n0]
              have HF := Lib.hid (show true = rtRightB r from by unfold rtRightB; simp [k0, c0, n0])
              first
              | (exfalso; omega)
              | (clear k0 c0 n0; go_wp2; go_ret; exact ⟨ret_bool HF.out, HB.out⟩)
            · have e0 : ((r.path.length : Int) == 0) = false := by rw [beq_eq_false_iff_ne]; omega
              have HF := Lib.hid (show false = rtRightB r from by unfold rtRightB; simp [k0, n0])
              clear k0 c0 n0
              go_wp2
              go_ret
              exact ⟨ret_bool HF.out, HB.out⟩
          · have d0 : (r.cost == 0) = false := by simp [c0]
            have HF := Lib.hid (show false = rtRightB r from by unfold rtRightB; simp [k0, c0])
            clear k0 c0
            go_wp2
            go_ret
            exact ⟨ret_bool HF.out, HB.out⟩
        · have b0 : (r.kind == 0) = false := by simp [k0]
          by_cases k1 : r.kind = 1
          · have b1 : (r.kind == 1) = true := by simp [k1]
            by_cases c0 : 0 ≤ r.cost
            · have d0 : decide (0 ≤ r.cost) = true := decide_eq_true c0
              by_cases c1 : r.cost ≤ 15
              · have d1 : decide (r.cost ≤ 15) = true := decide_eq_true c1
                by_cases n0 : r.path.length = 0
                · have e0 : ((r.path.length : Int) == 0) = true := by simp [n0]
                  have HF := Lib.hid (show true = rtRightB r from by unfold rtRightB; simp [k1, c0, c1, n0])
                  first
                  | (exfalso; omega)
                  | (clear k0 k1 n0; go_wp2; go_ret; exact ⟨ret_bool HF.out, HB.out⟩)
                · have e0 : ((r.path.length : Int) == 0) = false := by rw [beq_eq_false_iff_ne]; omega
                  have HF := Lib.hid (show false = rtRightB r from by unfold rtRightB; simp [k1, n0])
                  clear k0 k1 n0
                  go_wp2
                  go_ret
                  exact ⟨ret_bool HF.out, HB.out⟩
              · have d1 : decide (r.cost ≤ 15) = false := decide_eq_false c1
                have HF := Lib.hid (show false = rtRightB r from by unfold rtRightB; simp [k1, c1])
                clear k0 k1
                go_wp2
                go_ret
                exact ⟨ret_bool HF.out, HB.out⟩
            · have d0 : decide (0 ≤ r.cost) = false := decide_eq_false c0
              have HF := Lib.hid (show false = rtRightB r from by unfold rtRightB; simp [k1, c0])
              clear k0 k1
              go_wp2
              go_ret
              exact ⟨ret_bool HF.out, HB.out⟩
          · have b1 : (r.kind == 1) = false := by simp [k1]
            by_cases k2 : r.kind = 2
            · have b2 : (r.kind == 2) = true := by simp [k2]
              by_cases c0 : r.cost = 0
              · have d0 : (r.cost == 0) = true := by simp [c0]
                by_cases n0 : r.path.length ≤ 12
                · have e0 : decide ((r.path.length : Int) ≤ 12) = true := decide_eq_true (by omega)
                  have e1 : decide (r.path.length ≤ 12) = true := decide_eq_true n0
                  have HF := Lib.hid (show true = rtRightB r from by unfold rtRightB; rw [HEX.out]; simp [k2, c0, n0])
                  first
                  | (exfalso; omega)
                  | (clear k0 k1 k2 c0; go_wp2; go_ret; exact ⟨ret_bool HF.out, HB.out⟩)
                · have e0 : decide ((r.path.length : Int) ≤ 12) = false := decide_eq_false (by omega)
                  have e1 : decide (r.path.length ≤ 12) = false := decide_eq_false n0
                  have HF := Lib.hid (show false = rtRightB r from by unfold rtRightB; rw [HEX.out]; simp [k2, c0, n0])
                  clear k0 k1 k2 c0
                  go_wp2
                  go_ret
                  exact ⟨ret_bool HF.out, HB.out⟩
              · have d0 : (r.cost == 0) = false := by simp [c0]
                have HF := Lib.hid (show false = rtRightB r from by unfold rtRightB; simp [k2, c0])
                clear k0 k1 k2 c0
                go_wp2
                go_ret
                exact ⟨ret_bool HF.out, HB.out⟩
            · have b2 : (r.kind == 2) = false := by simp [k2]
              have HF := Lib.hid (show false = rtRightB r from by unfold rtRightB; simp [k0, k1, k2])
              clear k0 k1 k2
              go_wp2
              go_ret
              exact ⟨ret_bool HF.out, HB.out⟩)

/-- The first of those than which no later one is better, as the document seeks it. -/
def rbestZ (m x : RtZ) : RtZ := if rbetB x.1 m.1 then x else m
def rbestL : List RtZ → RtZ
  | [] => (rtNone, (none, 0))
  | z :: L => L.foldl rbestZ z
theorem rbestL_snoc {L : List RtZ} {x : RtZ} (h : L ≠ []) : rbestL (L ++ [x]) = rbestZ (rbestL L) x := by
  cases L with
  | nil => exact absurd rfl h
  | cons z L => simp [rbestL]
theorem rbestF_mem : ∀ (L : List RtZ) (z : RtZ), L.foldl rbestZ z = z ∨ L.foldl rbestZ z ∈ L
  | [], _ => .inl rfl
  | x :: L, z => by
    simp only [List.foldl_cons]
    rcases rbestF_mem L (rbestZ z x) with h | h
    · rw [h]
      unfold rbestZ
      split
      · exact .inr (by simp)
      · exact .inl rfl
    · exact .inr (List.mem_cons_of_mem _ h)
theorem rbestL_mem (L : List RtZ) : rbestL L = (rtNone, (none, 0)) ∨ rbestL L ∈ L := by
  cases L with
  | nil => exact .inl rfl
  | cons z L =>
    rcases rbestF_mem L z with h | h
    · exact .inr (by show L.foldl rbestZ z ∈ z :: L; rw [h]; simp)
    · exact .inr (List.mem_cons_of_mem _ h)
theorem rbestF_fst : ∀ (L : List RtZ) (z : RtZ), KindOk z.1 → (∀ x ∈ L, KindOk x.1) → (L.foldl rbestZ z).1 = (L.map (·.1)).foldl bestStepR z.1
  | [], _, _, _ => rfl
  | x :: L, z, hz, hL => by
    simp only [List.foldl_cons, List.map_cons]
    have hx := hL x (by simp)
    have e : (rbestZ z x).1 = bestStepR z.1 x.1 := by unfold rbestZ bestStepR; rw [rbet_eq hx hz]; split <;> rfl
    have hk : KindOk (rbestZ z x).1 := by unfold rbestZ; split <;> assumption
    rw [rbestF_fst L _ hk (fun y hy => hL y (List.mem_cons_of_mem _ hy)), e]
theorem rbestL_fst {L : List RtZ} (h : ∀ x ∈ L, KindOk x.1) : (rbestL L).1 = bestR (L.map (·.1)) := by
  cases L with
  | nil => rfl
  | cons z L => exact rbestF_fst L z (h z (by simp)) (fun x hx => h x (List.mem_cons_of_mem _ hx))
theorem rtR_none {w : World} {B : Nat} {k c : Int} : RtR w B ⟨k, c, []⟩ none 0 := ⟨Rd.nil _, Nat.le_refl _, by simp [maxLen]⟩
theorem rbestL_rt {w : World} {L : List RtZ} {A : Option Addr} (h : RtsR w w.heap.size L A) : RtR w w.heap.size (rbestL L).1 (rbestL L).2.1 (rbestL L).2.2 := by
  rcases rbestL_mem L with e | e
  · rw [e]; exact rtR_none
  · exact h.each _ e
end Go.Proofs.YtjdnkbpclhldfaaDoor

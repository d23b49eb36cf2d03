/- The walks of package graph: around, other, from. -/
import Derived.Test.YtablbagdnmbbfaaGreatData
namespace Go.Proofs.YtablbagdnmbbfaaGreat
set_option linter.unusedSimpArgs false
set_option linter.unusedVariables false
open Go.RowKit


def othV (xa xb n : Int) : Int := if n = xa then xb else if n = xb then xa else -1

theorem other_any (xa xb xc : Int) (n : Int) (w : World) : Calls Tryz.prog 47 #[.agg #[.int .i64 xa, .int .i64 xb, .int .i64 xc], .int .i64 n] w fun e w' => e = .returned (.int .i64 (othV xa xb n)) ∧ Below w.heap.size w w' := by
  by_cases h1 : n = xa
  · have b1 : (n == xa) = true := by simp [h1]
    have H1 := Lib.hid h1
    clear h1
    go_enter Tryz.func47, Tryz.ntmps47
    go_wp2
    go_ret
    exact ⟨ret_int (by rw [othV, if_pos H1.out]), (Below.refl _ _).alloc (Nat.le_refl _) _⟩
  · by_cases h2 : n = xb
    · have b1 : (n == xa) = false := by simp [h1]
      have b2 : (n == xb) = true := by simp [h2]
      have H1 := Lib.hid h1
      have H2 := Lib.hid h2
      clear h1 h2
      go_enter Tryz.func47, Tryz.ntmps47
      go_wp2
      go_ret
      exact ⟨ret_int (by rw [othV, if_neg H1.out, if_pos H2.out]), (Below.refl _ _).alloc (Nat.le_refl _) _⟩
    · have b1 : (n == xa) = false := by simp [h1]
      have b2 : (n == xb) = false := by simp [h2]
      have H1 := Lib.hid h1
      have H2 := Lib.hid h2
      clear h1 h2
      go_enter Tryz.func47, Tryz.ntmps47
      go_wp2
      go_ret
      exact ⟨ret_int (by rw [othV, if_neg H1.out, if_neg H2.out]), (Below.refl _ _).alloc (Nat.le_refl _) _⟩

def isAr (L : List Lk) (f n : Int) (i : Nat) : Bool :=
  match L[i]? with
  | some x => !hasB f i && (x.a == n || x.b == n)
  | none => false
def arL (L : List Lk) (f n : Int) (k : Nat) : List Nat := (List.range k).filter (isAr L f n)
theorem arL_le (L : List Lk) (f n : Int) (k : Nat) : (arL L f n k).length ≤ k := by
  have := List.length_filter_le (isAr L f n) (List.range k)
  simpa [arL] using this
theorem arL_hit {L : List Lk} {f n : Int} {k : Nat} (h : isAr L f n k = true) : arL L f n (k + 1) = arL L f n k ++ [k] := by
  simp [arL, List.range_succ, List.filter_append, h]
theorem arL_miss {L : List Lk} {f n : Int} {k : Nat} (h : isAr L f n k = false) : arL L f n (k + 1) = arL L f n k := by
  simp [arL, List.range_succ, List.filter_append, h]
def nats (l : List Nat) : List Value := l.map fun (i : Nat) => Value.int .i64 (i : Int)
theorem nats_snoc (l : List Nat) (k : Nat) : nats (l ++ [k]) = nats l ++ [Value.int .i64 (k : Int)] := by simp [nats]
theorem nats_at {l : List Nat} {i x : Nat} (h : l[i]? = some x) : (nats l)[i]? = some (.int .i64 (x : Int)) := by simp [nats, h]
theorem arL_zero (L : List Lk) (f n : Int) : arL L f n 0 = [] := by simp [arL]

/-- What around hands back: a slice of the call's own that holds the links. -/
def AroundPost (L : List Lk) (f n : Int) (w : World) (e : Ending) (w' : World) : Prop :=
  ∃ A c, e = .returned (.slice A (arL L f n L.length).length c) ∧ Own w' w.heap.size 3 1 A (arL L f n L.length).length c (nats (arL L f n L.length)) ∧ Below w.heap.size w w'

theorem ar_hit_step {w w1 w2 : World} {L : List Lk} {f n : Int} {k m : Nat} {A2 A1 : Option Addr} {c2 B : Nat} (hB : B = w.heap.size) (h : isAr L f n k = true) (hm : m = (arL L f n k).length + 1)
    (hown2 : Own w2 B 3 1 A2 m c2 (nats (arL L f n k) ++ [Value.int .i64 (k : Int)])) (hb : Below B w w1) (hg : w1.grownBy w2 (blk A1)) (hA : ∀ g, blk A1 = some g → B ≤ g) :
    m = (arL L f n (k + 1)).length ∧ Own w2 B 3 1 A2 (arL L f n (k + 1)).length c2 (nats (arL L f n (k + 1))) ∧ Below B w w2 := by
  have e : m = (arL L f n (k + 1)).length := by rw [arL_hit h, hm]; simp
  subst e
  refine ⟨rfl, ?_, hb.grown hg (by rw [hB]; exact hb.size) hA⟩
  rw [← nats_snoc, ← arL_hit h] at hown2
  exact hown2

set_option maxHeartbeats 1000000 in
theorem around_any (L : List Lk) (f n : Int) (w : World) (a0 a1 a2 a3 a5 a6 : Value) (A : Option Addr) (c : Nat) (h : Rd w w.heap.size 3 A L.length (L.flatMap lkCells)) (hl : L.length ≤ 1000) :
    Calls Tryz.prog 46 #[.agg #[a0, a1, a2, a3, .slice A L.length c, a5, a6], .int .i64 f, .int .i64 n] w (AroundPost L f n w) := by
  obtain ⟨i0, hi, hz0, hz1, hz2⟩ := info_parts Tryz.info_int
  go_enter Tryz.func46, Tryz.ntmps46
  go_wp2_with fail
  go_loopw [6, 12] (fun v i wr => ∃ (k : Nat) (A' : Option Addr) (c' : Nat), k ≤ L.length ∧ i = .int .i64 k ∧ v = .slice A' (arL L f n k).length c' ∧ Own wr w.heap.size 3 1 A' (arL L f n k).length c' (nats (arL L f n k)) ∧ Below w.heap.size w wr)
    (fun _ i _ => L.length - (intOf i).toNat)
  case atStart => exact ⟨0, none, 0, Nat.zero_le _, rfl, by rw [arL_zero]; rfl, by rw [arL_zero]; exact Own.nil _ _ _ _, (Below.refl _ _).alloc (Nat.le_refl _) _⟩
  case round =>
    obtain ⟨k, A', c', hk, rfl, rfl, hown, hbel⟩ := hrel
    have hsz := hbel.size
    have hle := arL_le L f n k
    by_cases hlt : k < L.length
    · obtain ⟨x, hx⟩ : ∃ x, L[k]? = some x := ⟨_, List.getElem?_eq_getElem hlt⟩
      obtain ⟨b, o, rfl, hb, hc0, hc1, hc2⟩ := h.link hx
      rw [← hbel.cell hb] at hc0 hc1 hc2
      have HX := Lib.hid hx
      clear hx h
      by_cases hh : hasB f k = true
      · have HM : isAr L f n k = false := by simp [isAr, HX.out, hh]
        have HM := Lib.hid HM
        go_wp2_with (go_at_call 83; refine (has_any _ _ _).mono ?_; rintro e w' ⟨rfl, rfl⟩)
        go_roundw
        case rel => exact ⟨k + 1, A', c', by omega, by go_num, by rw [arL_miss HM.out], by rw [arL_miss HM.out]; exact hown.alloc _, hbel.alloc hsz _⟩
        case measure => simp [intOf]; omega
      · have hh : hasB f k = false := by simpa using hh
        by_cases ha : x.a = n
        · have hab : (x.a == n) = true := by simp [ha]
          have HM : isAr L f n k = true := by simp [isAr, HX.out, hh, ha]
          have HM := Lib.hid HM
          clear ha
          go_wp2_with (first | (go_at_call 83; refine (has_any _ _ _).mono ?_; rintro e w' ⟨rfl, rfl⟩) | (at_builtin; refine wpList_app _ rfl _ _ 22 rfl w.heap.size 3 i0 (.int .i64 0) 1 8 Tryz.underlying22 hi hz0 hz1 hz2 rfl (by decide) _ _ _ (nats (arL L f n k)) rfl (by exact (hown.alloc _).alloc _) _ 1 _ [.int .i64 k] rfl (Rd.new (by simp) rfl) (by intro u hu; simp at hu; subst hu; rfl) (by unfold maxLen; omega) (by omega) (by simp; omega) ?_; intro A2 c2 w2 hown2 hgrow2 hblk2 _))
          have R := ar_hit_step rfl HM.out rfl hown2 ((hbel.alloc hsz _).alloc (by simp; omega) _) hgrow2 hown.from_
          go_roundw
          case rel => exact ⟨k + 1, A2, c2, by omega, by go_num, by rw [← R.1], R.2.1, R.2.2⟩
          case measure => simp [intOf]; omega
        · have hab : (x.a == n) = false := by simp [ha]
          by_cases hbb : x.b = n
          · have hbe : (x.b == n) = true := by simp [hbb]
            have HM : isAr L f n k = true := by simp [isAr, HX.out, hh, hbb]
            have HM := Lib.hid HM
            clear ha hbb
            go_wp2_with (first | (go_at_call 83; refine (has_any _ _ _).mono ?_; rintro e w' ⟨rfl, rfl⟩) | (at_builtin; refine wpList_app _ rfl _ _ 22 rfl w.heap.size 3 i0 (.int .i64 0) 1 8 Tryz.underlying22 hi hz0 hz1 hz2 rfl (by decide) _ _ _ (nats (arL L f n k)) rfl (by exact (hown.alloc _).alloc _) _ 1 _ [.int .i64 k] rfl (Rd.new (by simp) rfl) (by intro u hu; simp at hu; subst hu; rfl) (by unfold maxLen; omega) (by omega) (by simp; omega) ?_; intro A2 c2 w2 hown2 hgrow2 hblk2 _))
            have R := ar_hit_step rfl HM.out rfl hown2 ((hbel.alloc hsz _).alloc (by simp; omega) _) hgrow2 hown.from_
            go_roundw
            case rel => exact ⟨k + 1, A2, c2, by omega, by go_num, by rw [← R.1], R.2.1, R.2.2⟩
            case measure => simp [intOf]; omega
          · have hbe : (x.b == n) = false := by simp [hbb]
            have HM : isAr L f n k = false := by simp [isAr, HX.out, hh, ha, hbb]
            have HM := Lib.hid HM
            clear ha hbb
            go_wp2_with (go_at_call 83; refine (has_any _ _ _).mono ?_; rintro e w' ⟨rfl, rfl⟩)
            go_roundw
            case rel => exact ⟨k + 1, A', c', by omega, by go_num, by rw [arL_miss HM.out], by rw [arL_miss HM.out]; exact hown.alloc _, hbel.alloc hsz _⟩
            case measure => simp [intOf]; omega
    · have hk' : k = L.length := by omega
      have hfin : AroundPost L f n w (.returned (.slice A' (arL L f n k).length c')) wr := by
        subst hk'
        exact ⟨A', c', rfl, hown, hbel⟩
      have HF := Lib.hid hfin
      clear hk' hfin h
      go_wp2
      go_ret
      exact HF.out
end Go.Proofs.YtablbagdnmbbfaaGreat

/- The walks of package graph: around, other, from. -/
import Derived.Test.YtiehlnokidhgfaaData
namespace Go.Proofs.Ytiehlnokidhgfaa
set_option linter.unusedSimpArgs false
set_option linter.unusedVariables false
open Go.RowKit


def othV (xa xb n : Int) : Int := if n = xa then xb else if n = xb then xa else -1

theorem other_any (xa xb xc : Int) (n : Int) (w : World) : Calls Try.prog 20 #[.agg #[.int .i64 xa, .int .i64 xb, .int .i64 xc], .int .i64 n] w fun e w' => e = .returned (.int .i64 (othV xa xb n)) ∧ Below w.heap.size w w' := by
  by_cases h1 : n = xa
  · have b1 : (n == xa) = true := by simp [h1]
    have H1 := Lib.hid h1
    clear h1
    go_enter Try.func20, Try.ntmps20
    go_wp2
    go_ret
    exact ⟨ret_int (by rw [othV, if_pos H1.out]), (Below.refl _ _).alloc (Nat.le_refl _) _⟩
  · by_cases h2 : n = xb
    · have b1 : (n == xa) = false := by simp [h1]
      have b2 : (n == xb) = true := by simp [h2]
      have H1 := Lib.hid h1
      have H2 := Lib.hid h2
      clear h1 h2
      go_enter Try.func20, Try.ntmps20
      go_wp2
      go_ret
      exact ⟨ret_int (by rw [othV, if_neg H1.out, if_pos H2.out]), (Below.refl _ _).alloc (Nat.le_refl _) _⟩
    · have b1 : (n == xa) = false := by simp [h1]
      have b2 : (n == xb) = false := by simp [h2]
      have H1 := Lib.hid h1
      have H2 := Lib.hid h2
      clear h1 h2
      go_enter Try.func20, Try.ntmps20
      go_wp2
      go_ret
      exact ⟨ret_int (by rw [othV, if_neg H1.out, if_neg H2.out]), (Below.refl _ _).alloc (Nat.le_refl _) _⟩

def isAr (L : List Lk) (f n : Int) (i : Nat) : Bool :=
  match L[i]? with
  | some x => !hasB f i && (x.a == n || x.b == n)
  | none => false
def arL (L : List Lk) (f n : Int) (k : Nat) : List Nat := (List.range k).filter (isAr L f n)
theorem arL_le (L : List Lk) (f n : Int) (k : Nat) : (arL L f n k).length ≤ k := by
  have := List.length_filter_le (isAr L f n) (List.range k)
  simpa [arL] using this
theorem arL_hit {L : List Lk} {f n : Int} {k : Nat} (h : isAr L f n k = true) : arL L f n (k + 1) = arL L f n k ++ [k] := by
  simp [arL, List.range_succ, List.filter_append, h]
theorem arL_miss {L : List Lk} {f n : Int} {k : Nat} (h : isAr L f n k = false) : arL L f n (k + 1) = arL L f n k := by
  simp [arL, List.range_succ, List.filter_append, h]
def nats (l : List Nat) : List Value := l.map fun (i : Nat) => Value.int .i64 (i : Int)
theorem nats_snoc (l : List Nat) (k : Nat) : nats (l ++ [k]) = nats l ++ [Value.int .i64 (k : Int)] := by simp [nats]
theorem nats_at {l : List Nat} {i x : Nat} (h : l[i]? = some x) : (nats l)[i]? = some (.int .i64 (x : Int)) := by simp [nats, h]
theorem arL_zero (L : List Lk) (f n : Int) : arL L f n 0 = [] := by simp [arL]

/-- What around hands back: a slice of the call's own that holds the links. -/
def AroundPost (L : List Lk) (f n : Int) (w : World) (e : Ending) (w' : World) : Prop :=
  ∃ A c, e = .returned (.slice A (arL L f n L.length).length c) ∧ Own w' w.heap.size 3 1 A (arL L f n L.length).length c (nats (arL L f n L.length)) ∧ Below w.heap.size w w'

theorem ar_hit_step {w w1 w2 : World} {L : List Lk} {f n : Int} {k m : Nat} {A2 A1 : Option Addr} {c2 B : Nat} (hB : B = w.heap.size) (h : isAr L f n k = true) (hm : m = (arL L f n k).length + 1)
    (hown2 : Own w2 B 3 1 A2 m c2 (nats (arL L f n k) ++ [Value.int .i64 (k : Int)])) (hb : Below B w w1) (hg : w1.grownBy w2 (blk A1)) (hA : ∀ g, blk A1 = some g → B ≤ g) :
    m = (arL L f n (k + 1)).length ∧ Own w2 B 3 1 A2 (arL L f n (k + 1)).length c2 (nats (arL L f n (k + 1))) ∧ Below B w w2 := by
  have e : m = (arL L f n (k + 1)).length := by rw [arL_hit h, hm]; simp
  subst e
  refine ⟨rfl, ?_, hb.grown hg (by rw [hB]; exact hb.size) hA⟩
  rw [← nats_snoc, ← arL_hit h] at hown2
  exact hown2

end Go.Proofs.Ytiehlnokidhgfaa

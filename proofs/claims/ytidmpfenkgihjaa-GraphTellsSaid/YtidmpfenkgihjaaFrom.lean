/- The walks of package graph: around, other, from. Plain laws on graphs: balls, distances, and what a search in breadth keeps. No program here. The walk of graph.from: the search in breadth. -/
import Derived.Test.YtidmpfenkgihjaaBase
import Derived.Test.YtidmpfenkgihjaaRows
namespace Go.Proofs.Ytidmpfenkgihjaa
set_option linter.unusedSimpArgs false
set_option linter.unusedVariables false
open Go.RowKit

section
def othV (xa xb n : Int) : Int := if n = xa then xb else if n = xb then xa else -1

theorem other_any (xa xb xc : Int) (n : Int) (w : World) : Calls Try.prog 24 #[.agg #[.int .i64 xa, .int .i64 xb, .int .i64 xc], .int .i64 n] w fun e w' => e = .returned (.int .i64 (othV xa xb n)) ∧ Below w.heap.size w w' := by
  by_cases h1 : n = xa
  · have b1 : (n == xa) = true := by simp [h1]
    have H1 := Lib.hid h1
    clear h1
    go_enter Try.func24, Try.ntmps24
    go_wp2
    go_ret
    exact ⟨ret_int (by rw [othV, if_pos H1.out]), (Below.refl _ _).alloc (Nat.le_refl _) _⟩
  · by_cases h2 : n = xb
    · have b1 : (n == xa) = false := by simp [h1]
      have b2 : (n == xb) = true := by simp [h2]
      have H1 := Lib.hid h1
      have H2 := Lib.hid h2
      clear h1 h2
      go_enter Try.func24, Try.ntmps24
      go_wp2
      go_ret
      exact ⟨ret_int (by rw [othV, if_neg H1.out, if_pos H2.out]), (Below.refl _ _).alloc (Nat.le_refl _) _⟩
    · have b1 : (n == xa) = false := by simp [h1]
      have b2 : (n == xb) = false := by simp [h2]
      have H1 := Lib.hid h1
      have H2 := Lib.hid h2
      clear h1 h2
      go_enter Try.func24, Try.ntmps24
      go_wp2
      go_ret
      exact ⟨ret_int (by rw [othV, if_neg H1.out, if_neg H2.out]), (Below.refl _ _).alloc (Nat.le_refl _) _⟩

def isAr (L : List Lk) (f n : Int) (i : Nat) : Bool :=
  match L[i]? with
  | some x => !hasB f i && (x.a == n || x.b == n)
  | none => false
def arL (L : List Lk) (f n : Int) (k : Nat) : List Nat := (List.range k).filter (isAr L f n)
theorem arL_le (L : List Lk) (f n : Int) (k : Nat) : (arL L f n k).length ≤ k := by
  have := List.length_filter_le (isAr L f n) (List.range k)
  simpa [arL] using this
theorem arL_hit {L : List Lk} {f n : Int} {k : Nat} (h : isAr L f n k = true) : arL L f n (k + 1) = arL L f n k ++ [k] := by
  simp [arL, List.range_succ, List.filter_append, h]
theorem arL_miss {L : List Lk} {f n : Int} {k : Nat} (h : isAr L f n k = false) : arL L f n (k + 1) = arL L f n k := by
  simp [arL, List.range_succ, List.filter_append, h]
def nats (l : List Nat) : List Value := l.map fun (i : Nat) => Value.int .i64 (i : Int)
theorem nats_snoc (l : List Nat) (k : Nat) : nats (l ++ [k]) = nats l ++ [Value.int .i64 (k : Int)] := by simp [nats]
theorem nats_at {l : List Nat} {i x : Nat} (h : l[i]? = some x) : (nats l)[i]? = some (.int .i64 (x : Int)) := by simp [nats, h]
theorem arL_zero (L : List Lk) (f n : Int) : arL L f n 0 = [] := by simp [arL]

/-- What around hands back: a slice of the call's own that holds the links. -/
def AroundPost (L : List Lk) (f n : Int) (w : World) (e : Ending) (w' : World) : Prop :=
  ∃ A c, e = .returned (.slice A (arL L f n L.length).length c) ∧ Own w' w.heap.size 3 1 A (arL L f n L.length).length c (nats (arL L f n L.length)) ∧ Below w.heap.size w w'

theorem ar_hit_step {w w1 w2 : World} {L : List Lk} {f n : Int} {k m : Nat} {A2 A1 : Option Addr} {c2 B : Nat} (hB : B = w.heap.size) (h : isAr L f n k = true) (hm : m = (arL L f n k).length + 1)
    (hown2 : Own w2 B 3 1 A2 m c2 (nats (arL L f n k) ++ [Value.int .i64 (k : Int)])) (hb : Below B w w1) (hg : w1.grownBy w2 (blk A1)) (hA : ∀ g, blk A1 = some g → B ≤ g) :
    m = (arL L f n (k + 1)).length ∧ Own w2 B 3 1 A2 (arL L f n (k + 1)).length c2 (nats (arL L f n (k + 1))) ∧ Below B w w2 := by
  have e : m = (arL L f n (k + 1)).length := by rw [arL_hit h, hm]; simp
  subst e
  refine ⟨rfl, ?_, hb.grown hg (by rw [hB]; exact hb.size) hA⟩
  rw [← nats_snoc, ← arL_hit h] at hown2
  exact hown2

set_option maxHeartbeats 1000000 in
theorem around_any (L : List Lk) (f n : Int) (w : World) (a0 a1 a2 a3 a5 a6 : Value) (A : Option Addr) (c : Nat) (h : Rd w w.heap.size 3 A L.length (L.flatMap lkCells)) (hl : L.length ≤ 1000) :
    Calls Try.prog 21 #[.agg #[a0, a1, a2, a3, .slice A L.length c, a5, a6], .int .i64 f, .int .i64 n] w (AroundPost L f n w) := by
  obtain ⟨i0, hi, hz0, hz1, hz2⟩ := info_parts Try.info_int
  go_enter Try.func21, Try.ntmps21
  go_wp2_with fail
  go_loopw [6, 12] (fun v i wr => ∃ (k : Nat) (A' : Option Addr) (c' : Nat), k ≤ L.length ∧ i = .int .i64 k ∧ v = .slice A' (arL L f n k).length c' ∧ Own wr w.heap.size 3 1 A' (arL L f n k).length c' (nats (arL L f n k)) ∧ Below w.heap.size w wr)
    (fun _ i _ => L.length - (intOf i).toNat)
  case atStart => exact ⟨0, none, 0, Nat.zero_le _, rfl, by rw [arL_zero]; rfl, by rw [arL_zero]; exact Own.nil _ _ _ _, (Below.refl _ _).alloc (Nat.le_refl _) _⟩
  case round =>
    obtain ⟨k, A', c', hk, rfl, rfl, hown, hbel⟩ := hrel
    have hsz := hbel.size
    have hle := arL_le L f n k
    by_cases hlt : k < L.length
    · obtain ⟨x, hx⟩ : ∃ x, L[k]? = some x := ⟨_, List.getElem?_eq_getElem hlt⟩
      obtain ⟨b, o, rfl, hb, hc0, hc1, hc2⟩ := h.link hx
      rw [← hbel.cell hb] at hc0 hc1 hc2
      have HX := Lib.hid hx
      clear hx h
      by_cases hh : hasB f k = true
      · have HM : isAr L f n k = false := by simp [isAr, HX.out, hh]
        have HM := Lib.hid HM
        go_wp2_with (go_at_call 27; refine (has_any _ _ _).mono ?_; rintro e w' ⟨rfl, rfl⟩)
        go_roundw
        case rel => exact ⟨k + 1, A', c', by omega, by go_num, by rw [arL_miss HM.out], by rw [arL_miss HM.out]; exact hown.alloc _, hbel.alloc hsz _⟩
        case measure => simp [intOf]; omega
      · have hh : hasB f k = false := by simpa using hh
        by_cases ha : x.a = n
        · have hab : (x.a == n) = true := by simp [ha]
          have HM : isAr L f n k = true := by simp [isAr, HX.out, hh, ha]
          have HM := Lib.hid HM
          clear ha
          go_wp2_with (first | (go_at_call 27; refine (has_any _ _ _).mono ?_; rintro e w' ⟨rfl, rfl⟩) | (at_builtin; refine wpList_app _ rfl _ _ 22 rfl w.heap.size 3 i0 (.int .i64 0) 1 8 Try.underlying22 hi hz0 hz1 hz2 rfl (by decide) _ _ _ (nats (arL L f n k)) rfl (by exact (hown.alloc _).alloc _) _ 1 _ [.int .i64 k] rfl (Rd.new (by simp) rfl) (by intro u hu; simp at hu; subst hu; rfl) (by unfold maxLen; omega) (by omega) (by simp; omega) ?_; intro A2 c2 w2 hown2 hgrow2 hblk2 _))
          have R := ar_hit_step rfl HM.out rfl hown2 ((hbel.alloc hsz _).alloc (by simp; omega) _) hgrow2 hown.from_
          go_roundw
          case rel => exact ⟨k + 1, A2, c2, by omega, by go_num, by rw [← R.1], R.2.1, R.2.2⟩
          case measure => simp [intOf]; omega
        · have hab : (x.a == n) = false := by simp [ha]
          by_cases hbb : x.b = n
          · have hbe : (x.b == n) = true := by simp [hbb]
            have HM : isAr L f n k = true := by simp [isAr, HX.out, hh, hbb]
            have HM := Lib.hid HM
            clear ha hbb
            go_wp2_with (first | (go_at_call 27; refine (has_any _ _ _).mono ?_; rintro e w' ⟨rfl, rfl⟩) | (at_builtin; refine wpList_app _ rfl _ _ 22 rfl w.heap.size 3 i0 (.int .i64 0) 1 8 Try.underlying22 hi hz0 hz1 hz2 rfl (by decide) _ _ _ (nats (arL L f n k)) rfl (by exact (hown.alloc _).alloc _) _ 1 _ [.int .i64 k] rfl (Rd.new (by simp) rfl) (by intro u hu; simp at hu; subst hu; rfl) (by unfold maxLen; omega) (by omega) (by simp; omega) ?_; intro A2 c2 w2 hown2 hgrow2 hblk2 _))
            have R := ar_hit_step rfl HM.out rfl hown2 ((hbel.alloc hsz _).alloc (by simp; omega) _) hgrow2 hown.from_
            go_roundw
            case rel => exact ⟨k + 1, A2, c2, by omega, by go_num, by rw [← R.1], R.2.1, R.2.2⟩
            case measure => simp [intOf]; omega
          · have hbe : (x.b == n) = false := by simp [hbb]
            have HM : isAr L f n k = false := by simp [isAr, HX.out, hh, ha, hbb]
            have HM := Lib.hid HM
            clear ha hbb
            go_wp2_with (go_at_call 27; refine (has_any _ _ _).mono ?_; rintro e w' ⟨rfl, rfl⟩)
            go_roundw
            case rel => exact ⟨k + 1, A', c', by omega, by go_num, by rw [arL_miss HM.out], by rw [arL_miss HM.out]; exact hown.alloc _, hbel.alloc hsz _⟩
            case measure => simp [intOf]; omega
    · have hk' : k = L.length := by omega
      have hfin : AroundPost L f n w (.returned (.slice A' (arL L f n k).length c')) wr := by
        subst hk'
        exact ⟨A', c', rfl, hown, hbel⟩
      have HF := Lib.hid hfin
      clear hk' hfin h
      go_wp2
      go_ret
      exact HF.out
end

section
namespace Gr

/-- b is at most k steps from a. -/
def Ball (R : Nat → Nat → Prop) : Nat → Nat → Nat → Prop
  | 0, a, b => a = b
  | k + 1, a, b => Ball R k a b ∨ ∃ u, Ball R k a u ∧ R u b

section
variable {R : Nat → Nat → Prop}
theorem Ball.succ {k a b : Nat} (h : Ball R k a b) : Ball R (k + 1) a b := .inl h
theorem Ball.mono {k m a b : Nat} (h : Ball R k a b) (hm : k ≤ m) : Ball R m a b := by
  induction hm with
  | refl => exact h
  | step _ ih => exact .inl ih
theorem Ball.step {k a u b : Nat} (h : Ball R k a u) (hr : R u b) : Ball R (k + 1) a b := .inr ⟨u, h, hr⟩
theorem Ball.trans {j k a b c : Nat} (h : Ball R j a b) (h' : Ball R k b c) : Ball R (j + k) a c := by
  induction k generalizing c with
  | zero => cases h'; exact h
  | succ k ih =>
    rcases h' with h' | ⟨u, h', hr⟩
    · exact (ih h').succ
    · exact (ih h').step hr
theorem Ball.symm (hs : ∀ u v, R u v → R v u) {k a b : Nat} (h : Ball R k a b) : Ball R k b a := by
  induction k generalizing b with
  | zero => exact Eq.symm h
  | succ k ih =>
    rcases h with h | ⟨u, h, hr⟩
    · exact (ih h).succ
    · have h1 : Ball R 1 b u := .inr ⟨b, rfl, hs _ _ hr⟩
      have := h1.trans (ih h)
      rwa [Nat.add_comm] at this
theorem Ball.sub {R' : Nat → Nat → Prop} (hR : ∀ u v, R u v → R' u v) {k a b : Nat} (h : Ball R k a b) : Ball R' k a b := by
  induction k generalizing b with
  | zero => exact h
  | succ k ih =>
    rcases h with h | ⟨u, h, hr⟩
    · exact .inl (ih h)
    · exact .inr ⟨u, ih h, hR _ _ hr⟩
theorem Ball.lt {N : Nat} (hN : ∀ u v, R u v → v < N) {k a b : Nat} (ha : a < N) (h : Ball R k a b) : b < N := by
  induction k generalizing b with
  | zero => cases h; exact ha
  | succ k ih =>
    rcases h with h | ⟨u, h, hr⟩
    · exact ih h
    · exact hN _ _ hr
end

/-- h is how many steps b is from a; -1: none lead there. -/
def IsHops (R : Nat → Nat → Prop) (a b : Nat) (h : Int) : Prop :=
  (h = -1 ∧ ∀ k, ¬ Ball R k a b) ∨ ∃ n : Nat, h = n ∧ Ball R n a b ∧ ∀ k, Ball R k a b → n ≤ k

/-- What a search in breadth from a keeps: d the distances so far, q the nodes that are still to be looked at. -/
structure BInv (R : Nat → Nat → Prop) (N a : Nat) (d : Nat → Int) (q : List Nat) : Prop where
  start : d a = 0
  low : ∀ v, -1 ≤ d v
  far : ∀ v, N ≤ v → d v = -1
  ball : ∀ v, 0 ≤ d v → Ball R (d v).toNat a v
  inq : ∀ v ∈ q, 0 ≤ d v
  done : ∀ u, 0 ≤ d u → u ∉ q → ∀ v, R u v → 0 ≤ d v ∧ d v ≤ d u + 1
  sorted : q.Pairwise (fun x y => d x ≤ d y)
  near : ∀ x, q.head? = some x → ∀ v, d v ≤ d x + 1

def upd (d : Nat → Int) (m : Nat) (x : Int) : Nat → Int := fun v => if v = m then x else d v

section
variable {R : Nat → Nat → Prop} {N a : Nat} {d : Nat → Int} {q : List Nat}
theorem BInv.begin (ha : a < N) : BInv R N a (upd (fun _ => -1) a 0) [a] where
  start := by simp [upd]
  low := fun v => by unfold upd; split <;> simp
  far := fun v hv => by unfold upd; rw [if_neg (by omega)]
  ball := fun v hv => by
    by_cases e : v = a
    · subst e; simp [upd, Ball]
    · simp [upd, e] at hv
  inq := fun v hv => by simp at hv; subst hv; simp [upd]
  done := fun u hu hn => by
    by_cases e : u = a
    · subst e; simp at hn
    · simp [upd, e] at hu
  sorted := by simp
  near := fun x hx v => by
    simp at hx; subst hx
    by_cases e : v = a <;> simp [upd, e]

/-- A node that was not found yet is found from the head. -/
theorem BInv.find {n m : Nat} {t : List Nat} (h : BInv R N a d (n :: t)) (hm : d m < 0) (hr : R n m) (hmN : m < N) : BInv R N a (upd d m (d n + 1)) (n :: t ++ [m]) := by
  have hn : 0 ≤ d n := h.inq n (by simp)
  have hnm : n ≠ m := by rintro rfl; omega
  have hq : ∀ v ∈ n :: t, v ≠ m := fun v hv e => by subst e; have := h.inq v hv; omega
  have hd : ∀ v, v ≠ m → upd d m (d n + 1) v = d v := fun v hv => by simp [upd, hv]
  have hdm : upd d m (d n + 1) m = d n + 1 := by simp [upd]
  refine ⟨?_, ?_, ?_, ?_, ?_, ?_, ?_, ?_⟩
  · rw [hd a (by rintro rfl; have := h.start; omega)]; exact h.start
  · intro v
    by_cases e : v = m
    · subst e; rw [hdm]; omega
    · rw [hd v e]; exact h.low v
  · intro v hv
    rw [hd v (by omega)]; exact h.far v hv
  · intro v hv
    by_cases e : v = m
    · subst e
      rw [hdm, show (d n + 1).toNat = (d n).toNat + 1 from by omega]
      exact (h.ball n hn).step hr
    · rw [hd v e] at hv ⊢; exact h.ball v hv
  · intro v hv
    rcases List.mem_append.1 hv with hv | hv
    · rw [hd v (hq v hv)]; exact h.inq v hv
    · simp at hv; subst hv; rw [hdm]; omega
  · intro u hu hnq v hv
    have hum : u ≠ m := fun e => hnq (by simp [e])
    have hu' : 0 ≤ d u := by rwa [hd u hum] at hu
    have := h.done u hu' (fun hh => hnq (List.mem_append_left _ hh)) v hv
    rw [hd u hum]
    by_cases e : v = m
    · subst e; omega
    · rw [hd v e]; exact this
  · rw [List.pairwise_append]
    refine ⟨?_, by simp, ?_⟩
    · exact h.sorted.imp_of_mem fun {x y} hx hy hxy => by rw [hd x (hq x hx), hd y (hq y hy)]; exact hxy
    · intro x hx y hy
      simp at hy; subst hy
      rw [hd x (hq x hx), hdm]
      have := h.near n rfl x
      omega
  · intro x hx v
    have hx' : x = n := by simpa using hx.symm
    subst hx'
    rw [hd x hnm]
    by_cases e : v = m
    · subst e; rw [hdm]; omega
    · rw [hd v e]; exact h.near x rfl v

/-- The head has been looked at: all its neighbours are found. -/
theorem BInv.pop {n : Nat} {t : List Nat} (h : BInv R N a d (n :: t)) (hall : ∀ v, R n v → 0 ≤ d v) : BInv R N a d t where
  start := h.start
  low := h.low
  far := h.far
  ball := h.ball
  inq := fun v hv => h.inq v (by simp [hv])
  done := fun u hu hnq v hv => by
    by_cases e : u = n
    · subst e; exact ⟨hall v hv, h.near u rfl v⟩
    · exact h.done u hu (by simp [e, hnq]) v hv
  sorted := (List.pairwise_cons.1 h.sorted).2
  near := fun x hx v => by
    have h1 := h.near n rfl v
    have h2 := (List.pairwise_cons.1 h.sorted).1 x (List.mem_of_mem_head? (by simp [hx]))
    omega

theorem BInv.end_ (h : BInv R N a d []) (b : Nat) : IsHops R a b (d b) := by
  have key : ∀ k b, Ball R k a b → 0 ≤ d b ∧ d b ≤ k := by
    intro k
    induction k with
    | zero =>
      intro b hb
      cases hb
      rw [h.start]; simp
    | succ k ih =>
      intro b hb
      rcases hb with hb | ⟨u, hb, hr⟩
      · have := ih b hb; omega
      · have h1 := ih u hb
        have h2 := h.done u h1.1 (by simp) b hr
        omega
  by_cases hb : 0 ≤ d b
  · refine .inr ⟨(d b).toNat, by omega, h.ball b hb, fun k hk => ?_⟩
    have := key k b hk
    omega
  · have hl := h.low b
    exact .inl ⟨by omega, fun k hk => hb (key k b hk).1⟩

/-- How many of the nodes below N are not found yet. -/
def und (d : Nat → Int) (N : Nat) : Nat := ((List.range N).filter fun v => d v < 0).length
theorem und_upd {m : Nat} {x : Int} : ∀ {N : Nat}, d m < 0 → 0 ≤ x → m < N → und (upd d m x) N + 1 = und d N := by
  intro N
  induction N with
  | zero => intro _ _ h; omega
  | succ N ih =>
    intro hm hx hN
    unfold und
    rw [List.range_succ, List.filter_append, List.length_append, List.filter_append, List.length_append]
    by_cases e : m = N
    · subst e
      have h1 : (List.range m).filter (fun v => decide (upd d m x v < 0)) = (List.range m).filter (fun v => decide (d v < 0)) := by
        apply List.filter_congr
        intro v hv
        have : v ≠ m := by have := List.mem_range.1 hv; omega
        simp [upd, this]
      rw [h1]
      have h2 : ([m].filter fun v => decide (upd d m x v < 0)) = [] := by simp [upd]; omega
      have h3 : ([m].filter fun v => decide (d v < 0)) = [m] := by simp; omega
      rw [h2, h3]; simp
    · have := ih hm hx (by omega)
      unfold und at this
      have h2 : ([N].filter fun v => decide (upd d m x v < 0)) = ([N].filter fun v => decide (d v < 0)) := by
        have : N ≠ m := fun h => e h.symm
        simp [upd, List.filter_cons, this]
      rw [h2]; omega
theorem und_none {N : Nat} : und (fun _ => -1) N = N := by
  unfold und
  rw [List.filter_eq_self.2 (fun _ _ => by simp)]
  simp
theorem und_le (d : Nat → Int) (N : Nat) : und d N ≤ N := by
  have := List.length_filter_le (fun v => decide (d v < 0)) (List.range N)
  simpa [und] using this
/-- No distance is as great as the number of nodes. -/
def Top (d : Nat → Int) (N : Nat) : Prop := ∀ v, d v + und d N + 1 ≤ N
theorem Top.begin {a N : Nat} (ha : a < N) : Top (upd (fun _ => -1) a 0) N := by
  intro v
  have h := und_upd (d := fun _ => -1) (m := a) (x := 0) (N := N) (by simp) (by simp) ha
  rw [und_none] at h
  by_cases e : v = a
  · have : upd (fun _ => -1) a 0 v = 0 := by simp [upd, e]
    omega
  · have : upd (fun _ => -1) a 0 v = -1 := by simp [upd, e]
    omega
theorem Top.find {d : Nat → Int} {n m N : Nat} (h : Top d N) (hn : 0 ≤ d n) (hm : d m < 0) (hmN : m < N) : Top (upd d m (d n + 1)) N := by
  intro v
  have h1 := und_upd (d := d) (m := m) (x := d n + 1) (N := N) hm (by omega) hmN
  have h2 := h n
  have h3 := h v
  by_cases e : v = m
  · subst e
    have : upd d v (d n + 1) v = d n + 1 := by simp [upd]
    omega
  · have : upd d m (d n + 1) v = d v := by simp [upd, e]
    omega
end
end Gr
end

section
/-- Two nodes are ends of a link that has not failed. -/
def Adj (L : List Lk) (f : Int) (u v : Nat) : Prop := ∃ (i : Nat) (x : Lk), L[i]? = some x ∧ hasB f i = false ∧ ((x.a = u ∧ x.b = v) ∨ (x.b = u ∧ x.a = v))
/-- Links between nodes below N, from a lower one to a higher one. -/
def LksOk (L : List Lk) (N : Nat) : Prop := ∀ x ∈ L, 0 ≤ x.a ∧ x.a < x.b ∧ x.b < N

/-- The array of twelve distances. -/
def farArr (d : Nat → Int) : Array Value := ((List.range 12).map fun i => Value.int .i64 (d i)).toArray
theorem Try.size_far : (Try.prog.info? 60).map (·.size) = some 12 := by kernel_rfl
theorem farArr_size (d : Nat → Int) : (farArr d).size = 12 := by simp [farArr]
theorem farArr_one (d : Nat → Int) : (farArr d).all (·.oneCell') = true := by simp [farArr, Value.oneCell']
theorem farArr_at (d : Nat → Int) {i : Nat} (h : i < 12) : (farArr d)[i]? = some (.int .i64 (d i)) := by simp [farArr, h]
theorem farArr_set (d : Nat → Int) {m : Nat} (x : Int) : (farArr d).setIfInBounds m (.int .i64 x) = farArr (Gr.upd d m x) := by
  apply Array.ext_getElem?
  intro i
  rw [Array.getElem?_setIfInBounds]
  by_cases hi : i < 12
  · rw [farArr_at _ hi, farArr_at _ hi]
    by_cases e : m = i
    · subst e; simp [farArr, hi, Gr.upd]
    · have e' : i ≠ m := fun h => e h.symm
      simp [e, e', Gr.upd]
  · rw [Array.getElem?_eq_none (by rw [farArr_size]; omega), Array.getElem?_eq_none (by rw [farArr_size]; omega)]
    split <;> simp_all [farArr]

/-- The blocks of the walk: the network's copy, the result, and the distances so far. -/
structure FromW (w wr : World) (cs : Array Value) (d : Nat → Int) : Prop where
  below : Below w.heap.size w wr
  size : w.heap.size + 3 ≤ wr.heap.size
  plan : wr.heap[w.heap.size]? = some (.cells cs 29 (0, 0))
  res : wr.heap[w.heap.size + 1]? = some (.cells (farArr fun _ => 0) 60 (0, 0))
  out : wr.heap[w.heap.size + 1 + 1]? = some (.cells (farArr d) 60 (0, 0))
section
variable {w wr w' : World} {cs : Array Value} {d : Nat → Int}
theorem FromW.begin : FromW w (((w.alloc (.cells cs 29)).alloc (.cells (farArr fun _ => 0) 60)).alloc (.cells (farArr fun _ => 0) 60)) cs (fun _ => 0) where
  below := (((Below.refl _ _).alloc (Nat.le_refl _) _).alloc (by simp) _).alloc (by simp; omega) _
  size := by simp
  plan := by exact (Below.heap_alloc _ _ _ (by simp; omega)).trans ((Below.heap_alloc _ _ _ (by simp)).trans (heap_alloc_new _ _))
  res := by
    refine (Below.heap_alloc _ _ _ (by simp)).trans ?_
    have := heap_alloc_new (w.alloc (.cells cs 29)) (.cells (farArr fun _ => 0) 60)
    simpa using this
  out := by
    have := heap_alloc_new ((w.alloc (.cells cs 29)).alloc (.cells (farArr fun _ => 0) 60)) (.cells (farArr fun _ => 0) 60)
    simpa using this
/-- Behind steps that turn nothing of what was there. -/
theorem FromW.call (h : FromW w wr cs d) (hb : Below (w.heap.size + 3) wr w') : FromW w w' cs d where
  below := h.below.trans (hb.mono (by omega))
  size := Nat.le_trans h.size hb.size
  plan := (hb.block _ (by omega)).trans h.plan
  res := (hb.block _ (by omega)).trans h.res
  out := (hb.block _ (by omega)).trans h.out
theorem FromW.set (h : FromW w wr cs d) (m : Nat) (x : Int) : FromW w (wr.setCell ⟨w.heap.size + 1 + 1, m, none⟩ (.int .i64 x)) cs (Gr.upd d m x) where
  below := h.below.setCell (by simp; omega) _
  size := by simpa [World.setCell] using h.size
  plan := (Below.heap_setCell _ _ _ _ (by simp; omega)).trans h.plan
  res := (Below.heap_setCell _ _ _ _ (by simp)).trans h.res
  out := by rw [heap_setCell_same wr _ m _ _ _ h.out, farArr_set]
theorem FromW.at_ (h : FromW w wr cs d) {m : Nat} (hm : m < 12) : wr.cell? ⟨w.heap.size + 1 + 1, m, none⟩ = some (.int .i64 (d m)) := by
  rw [cell_of_row wr _ m _ _ _ h.out, farArr_at _ hm]
theorem FromW.free (h : FromW w wr cs d) (m : Nat) : wr.frozen? ⟨w.heap.size + 1 + 1, m, none⟩ = false := frozen_of_row wr _ m _ _ h.out
theorem FromW.planAt (h : FromW w wr cs d) (m : Nat) : wr.cell? ⟨w.heap.size, m, none⟩ = cs[m]? := cell_of_row wr _ m _ _ _ h.plan
end

/-! ### Neighbours -/
theorem mem_arL {L : List Lk} {f n : Int} {k i : Nat} : i ∈ arL L f n k ↔ i < k ∧ isAr L f n i = true := by simp [arL]
theorem ar_oth {L : List Lk} {f : Int} {N n i : Nat} {x : Lk} (hok : LksOk L N) (hx : L[i]? = some x) (har : isAr L f n i = true) : ∃ m : Nat, othV x.a x.b n = m ∧ m < N ∧ Adj L f n m := by
  have ho := hok x (List.mem_of_getElem? hx)
  simp only [isAr, hx, Bool.and_eq_true, Bool.not_eq_true', Bool.or_eq_true, beq_iff_eq] at har
  obtain ⟨hh, h1 | h1⟩ := har
  · refine ⟨x.b.toNat, ?_, by omega, i, x, hx, hh, .inl ⟨h1, by omega⟩⟩
    unfold othV; rw [if_pos h1.symm]; omega
  · refine ⟨x.a.toNat, ?_, by omega, i, x, hx, hh, .inr ⟨h1, by omega⟩⟩
    unfold othV; rw [if_neg (by omega), if_pos h1.symm]; omega
theorem adj_ar {L : List Lk} {f : Int} {N n v : Nat} (hok : LksOk L N) (h : Adj L f n v) : ∃ i x, L[i]? = some x ∧ isAr L f n i = true ∧ othV x.a x.b n = v := by
  obtain ⟨i, x, hx, hh, hab⟩ := h
  have ho := hok x (List.mem_of_getElem? hx)
  refine ⟨i, x, hx, ?_, ?_⟩
  · simp only [isAr, hx, hh, Bool.not_false, Bool.true_and, Bool.or_eq_true, beq_iff_eq]
    rcases hab with ⟨h1, _⟩ | ⟨h1, _⟩
    · exact .inl h1
    · exact .inr h1
  · unfold othV
    rcases hab with ⟨h1, h2⟩ | ⟨h1, h2⟩
    · rw [if_pos h1.symm]; exact h2
    · rw [if_neg (by omega), if_pos h1.symm]; exact h2

/-- The ends of the first k links around n have been found. -/
def Seen (L : List Lk) (f : Int) (n : Nat) (d : Nat → Int) (k : Nat) : Prop :=
  ∀ j i x, j < k → (arL L f n L.length)[j]? = some i → L[i]? = some x → 0 ≤ d (othV x.a x.b n).toNat
theorem Seen.step {L : List Lk} {f : Int} {n k i m : Nat} {x : Lk} {d : Nat → Int} (h : Seen L f n d k) (hi : (arL L f n L.length)[k]? = some i) (hx : L[i]? = some x) (hm : othV x.a x.b n = m) (hd : 0 ≤ d m) : Seen L f n d (k + 1) := by
  intro j i' x' hj hi' hx'
  by_cases e : j = k
  · subst e
    rw [hi] at hi'
    injection hi' with hi'
    subst hi'
    rw [hx] at hx'
    injection hx' with hx'
    subst hx'
    rw [hm]; simpa using hd
  · exact h j i' x' (by omega) hi' hx'
theorem Seen.upd {L : List Lk} {f : Int} {n k m : Nat} {d : Nat → Int} {v : Int} (h : Seen L f n d k) (hv : 0 ≤ v) : Seen L f n (Gr.upd d m v) k := by
  intro j i x hj hi hx
  unfold Gr.upd
  split
  · exact hv
  · exact h j i x hj hi hx
theorem Seen.all {L : List Lk} {f : Int} {N n : Nat} {d : Nat → Int} (hok : LksOk L N) (h : Seen L f n d (arL L f n L.length).length) : ∀ v, Adj L f n v → 0 ≤ d v := by
  intro v hv
  obtain ⟨i, x, hx, har, ho⟩ := adj_ar hok hv
  have hmem : i ∈ arL L f n L.length := mem_arL.2 ⟨(List.getElem?_eq_some_iff.1 hx).1, har⟩
  obtain ⟨j, hj, hji⟩ := List.mem_iff_getElem.1 hmem
  have := h j i x hj (by rw [List.getElem?_eq_getElem hj, hji]) hx
  rw [ho] at this
  simpa using this
theorem nats_cut (q : List Nat) : (nats q).drop (1 * 1) = nats q.tail := by cases q <;> simp [nats]

/-- What the walk keeps at the head of its main loop. -/
def MainRel (L : List Lk) (f : Int) (N n : Nat) (w : World) (cs : Array Value) (gk : Nat) (v : Value) (wr : World) : Prop :=
  ∃ (q : List Nat) (A : Option Addr) (c : Nat) (d : Nat → Int), v = .slice A q.length c ∧ Own wr (w.heap.size + 3) 3 1 A q.length c (nats q) ∧ FromW w wr cs d ∧ Gr.BInv (Adj L f) N n d q ∧ (∀ x ∈ q, x < N) ∧ Gr.Top d N ∧ gk ≤ 25 ∧ 2 * Gr.und d N + q.length ≤ gk
/-- What the walk keeps at the head of its inner loop: k links around n' have been looked at; t stands behind n'. -/
def InRel (L : List Lk) (f : Int) (N n n' : Nat) (w : World) (cs : Array Value) (B3 : Nat) (A3 : Option Addr) (c3 M : Nat) (v i : Value) (wr : World) : Prop :=
  ∃ (k : Nat) (t : List Nat) (A : Option Addr) (c : Nat) (d : Nat → Int), i = .int .i64 k ∧ k ≤ (arL L f n' L.length).length ∧ v = .slice A (t.length + 1) c ∧ Own wr (w.heap.size + 3) 3 1 A (t.length + 1) c (nats (n' :: t)) ∧
    Own wr B3 3 1 A3 (arL L f n' L.length).length c3 (nats (arL L f n' L.length)) ∧ (∀ g, blk A = some g → blk A3 ≠ some g) ∧ FromW w wr cs d ∧ Gr.BInv (Adj L f) N n d (n' :: t) ∧ (∀ x ∈ n' :: t, x < N) ∧ Gr.Top d N ∧
    Seen L f n' d k ∧ M ≤ 25 ∧ 2 * Gr.und d N + (t.length + 1) ≤ M
/-- What from hands back. -/
def FromPost (L : List Lk) (f : Int) (N n : Nat) (w : World) (e : Ending) (w' : World) : Prop :=
  ∃ d : Nat → Int, e = .returned (.agg (farArr d)) ∧ (∀ b, Gr.IsHops (Adj L f) n b (d b)) ∧ (∀ b, d b < N) ∧ Below w.heap.size w w'
theorem upd_zero (n : Nat) : farArr (Gr.upd (fun v => if v < 12 then -1 else 0) n 0) = farArr (Gr.upd (fun _ => -1) n 0) := by
  apply Array.ext_getElem?
  intro i
  by_cases hi : i < 12
  · rw [farArr_at _ hi, farArr_at _ hi]; simp [Gr.upd, hi]
  · rw [Array.getElem?_eq_none (by rw [farArr_size]; omega), Array.getElem?_eq_none (by rw [farArr_size]; omega)]

theorem own_tail {w : World} {B e c : Nat} {A : Option Addr} {n : Nat} {t : List Nat} (h : Own w B e 1 A (t.length + 1) c (nats (n :: t))) (hc : c ≠ 1) :
    Own w B e 1 (Option.map (fun x => { block := x.block, off := x.off + 1 }) A) t.length (c - 1) (nats t) := by
  have := h.cut (k := 1) (by omega)
  rw [if_neg hc] at this
  exact this
theorem own_tail1 {w : World} {B e : Nat} {A : Option Addr} {n : Nat} {t : List Nat} (h : Own w B e 1 A (t.length + 1) 1 (nats (n :: t))) :
    Own w B e 1 A t.length 0 (nats t) := by
  have := h.cut (k := 1) (by omega)
  rw [if_pos rfl] at this
  exact this

/-- A node that was not found yet is found: the distances, the queue and the world behind. -/
theorem in_hit {L : List Lk} {f : Int} {N n n' : Nat} {w wr w2 : World} {cs : Array Value} {B3 : Nat} {A3 A4 A2 : Option Addr} {c3 c2 c4 M k m i : Nat} {x : Lk} {t : List Nat} {d : Nat → Int}
    (hk : k < (arL L f n' L.length).length) (hown : Own wr (w.heap.size + 3) 3 1 A4 (t.length + 1) c4 (nats (n' :: t)))
    (hown3 : Own wr B3 3 1 A3 (arL L f n' L.length).length c3 (nats (arL L f n' L.length))) (hdis : ∀ g, blk A4 = some g → blk A3 ≠ some g) (hF : FromW w wr cs d) (hB : Gr.BInv (Adj L f) N n d (n' :: t)) (hq : ∀ x ∈ n' :: t, x < N) (hT : Gr.Top d N)
    (hS : Seen L f n' d k) (h25 : M ≤ 25) (hms : 2 * Gr.und d N + (t.length + 1) ≤ M)
    (hi : (arL L f n' L.length)[k]? = some i) (hx : L[i]? = some x) (hm : othV x.a x.b n' = m) (hd : d m < 0) (hmN : m < N) (hadj : Adj L f n' m)
    (hown2 : Own w2 (w.heap.size + 3) 3 1 A2 (t.length + 1 + 1) c2 (nats (n' :: t) ++ [.int .i64 m]))
    (hgrow : ((wr.setCell ⟨w.heap.size + 1 + 1, m, none⟩ (.int .i64 (d n' + 1))).alloc (.cells #[.int .i64 m] 3)).grownBy w2 (blk A4))
    (hblk : A2 = A4 ∨ blk A2 = some ((wr.setCell ⟨w.heap.size + 1 + 1, m, none⟩ (.int .i64 (d n' + 1))).alloc (.cells #[.int .i64 m] 3)).heap.size) (kk : Value) (hkk : kk = .int .i64 ((k : Int) + 1)) (v : Value) (hv : v = .slice A2 (t.length + 1 + 1) c2) :
    InRel L f N n n' w cs B3 A3 c3 M v kk w2 := by
  have hn' := hB.inq n' (by simp)
  have hF1 := hF.set m (d n' + 1)
  have hsz := hF.size
  have hb : Below (w.heap.size + 3) (wr.setCell ⟨w.heap.size + 1 + 1, m, none⟩ (.int .i64 (d n' + 1))) w2 :=
    ((Below.refl _ _).alloc (by simpa [World.setCell] using hsz) _).grown hgrow (by simp; omega) hown.from_
  have hu := Gr.und_upd (d := d) (m := m) (x := d n' + 1) (N := N) hd (by omega) hmN
  refine ⟨k + 1, t ++ [m], A2, c2, Gr.upd d m (d n' + 1), by rw [hkk]; simp, by omega, by rw [hv]; simp, ?_, ?_, ?_, hF1.call hb, hB.find hd hadj hmN, ?_, hT.find hn' hd hmN, ?_, h25, ?_⟩
  · rw [← nats_snoc] at hown2
    simpa using hown2
  · refine ((hown3.setCell_type (p := ⟨w.heap.size + 1 + 1, m, none⟩) hF.out (by decide) _).alloc _).kept hgrow ?_
    cases h4 : blk A4 with
    | none =>
      cases h3 : blk A3 with
      | none => exact .inl rfl
      | some g => exact .inr (by simp)
    | some g => exact .inr (hdis g h4)
  · intro g hg h3
    rcases hblk with h | h
    · rw [h] at hg; exact hdis g hg h3
    · have hc3 : 0 < c3 := by have := hown3.2.1; omega
      obtain ⟨g3, off, cur, rfl, hh, _⟩ := hown3.2.2.2.2.2 hc3
      have := lt_heap hh
      simp [blk] at h3
      rw [h] at hg
      simp at hg
      omega
  · intro y hy
    simp at hy
    rcases hy with rfl | hy | rfl
    · exact hq _ (by simp)
    · exact hq y (by simp [hy])
    · exact hmN
  · exact (hS.upd (by omega)).step hi hx hm (by simp [Gr.upd]; omega)
  · simp; omega

set_option maxRecDepth 100000 in
set_option maxHeartbeats 1000000 in
theorem from_any (L : List Lk) (f : Int) (n : Nat) (N : Nat) (hN : N ≤ 12) (hn : n < N) (hok : LksOk L N) (w : World) (a0 a1 a2 a3 a5 a6 : Value) (A : Option Addr) (c : Nat) (h : Rd w w.heap.size 3 A L.length (L.flatMap lkCells)) (hl : L.length ≤ 1000) :
    Calls Try.prog 26 #[.agg #[a0, a1, a2, a3, .slice A L.length c, a5, a6], .int .i64 f, .int .i64 n] w (FromPost L f N n w) := by
  obtain ⟨i0, hi, hz0, hz1, hz2⟩ := info_parts Try.info_int
  go_enter Try.func26, Try.ntmps26
  go_wp2_with fail
  go_loopw [8, 14] (fun _ i wr => ∃ k : Nat, k ≤ 12 ∧ i = .int .i64 k ∧ FromW w wr #[a0, a1, a2, a3, .slice A L.length c, a5, a6] (fun v => if v < k then -1 else 0))
    (fun _ i _ => 12 - (intOf i).toNat)
  case atStart => exact ⟨0, Nat.zero_le _, rfl, FromW.begin⟩
  case round =>
    obtain ⟨k, hk, rfl, hF⟩ := hrel
    by_cases hlt : k < 12
    · have hc := hF.at_ hlt
      have hf := hF.free k
      rw [if_neg (by omega)] at hc
      go_wp2
      go_roundw
      case rel =>
        refine ⟨k + 1, by omega, by go_num, ?_⟩
        have := hF.set k (-1)
        refine (show (Gr.upd (fun v => if v < k then -1 else 0) k (-1)) = (fun v => if v < k + 1 then -1 else 0) from ?_) ▸ this
        funext v
        unfold Gr.upd
        by_cases e : v = k
        · subst e; simp
        · have : (v < k + 1) ↔ v < k := by omega
          simp [e, this]
      case measure => simp [intOf]; omega
    · have hk' : 12 = k := by omega
      subst hk'
      have hn12 : n < 12 := by omega
      have hc := hF.at_ hn12
      have hf := hF.free n
      rw [if_pos hn12] at hc
      have hsz := hF.size
      go_wp2_with fail
      go_loopg [9] (2 * N + 1) (fun gk v wr => MainRel L f N n w #[a0, a1, a2, a3, .slice A L.length c, a5, a6] gk v wr)
      case atStart =>
        have hF1 := hF.set n 0
        have hF2 : FromW w (wr.setCell ⟨w.heap.size + 1 + 1, n, none⟩ (.int .i64 0)) #[a0, a1, a2, a3, .slice A L.length c, a5, a6] (Gr.upd (fun _ => -1) n 0) :=
          ⟨hF1.below, hF1.size, hF1.plan, hF1.res, by rw [← upd_zero n]; exact hF1.out⟩
        refine ⟨[n], some ⟨wr.heap.size, 0, none⟩, 1, Gr.upd (fun _ => -1) n 0, rfl, ?_, hF2.call ((Below.refl _ _).alloc (by simp; omega) _), Gr.BInv.begin hn, by simp [hn], Gr.Top.begin hn, by omega, ?_⟩
        · refine ⟨rfl, Nat.le_refl _, by simp [maxLen], by simp, by simp [blk]; omega, fun _ => ⟨wr.heap.size, 0, #[.int .i64 n], rfl, ?_, Nat.le_refl 1, fun j u hu => by simpa [nats] using hu⟩⟩
          have := heap_alloc_new (wr.setCell ⟨w.heap.size + 1 + 1, n, none⟩ (.int .i64 0)) (.cells #[.int .i64 n] 3)
          simpa using this
        · have := Gr.und_le (Gr.upd (fun _ => -1) n 0) N
          simp; omega
      case round =>
        obtain ⟨q, Aq, cq, d, rfl, hown, hF, hB, hq, hT, h25, hms⟩ := hrel
        have hsz := hF.size
        rcases q with _ | ⟨n', t⟩
        · have hfin : FromPost L f N n w (.returned (.agg (farArr d))) (wr.setRow (w.heap.size + 1) (farArr d)) :=
            ⟨d, rfl, hB.end_, fun b => by have := hT b; omega, hF.below.trans ⟨rfl, rfl, rfl, by simp, fun k hk => setRow_other _ _ _ _ (by omega)⟩⟩
          have HF := Lib.hid hfin
          clear hfin hms hown hB hq hT h
          go_wp2_with (first
            | (with_reducible refine wpList_load_row rfl 60 _ rfl (w.heap.size + 1 + 1) rfl 60 _ (0, 0) _ hF.out Try.underlying60 rfl ?hsize ?_)
            | (with_reducible refine wpList_store_row rfl 60 _ _ rfl (w.heap.size + 1) (farArr d) rfl rfl 60 _ hF.res ?hsize2 ?hs3 ?hs4 ?_))
          case hsize => rw [farArr_size]; exact Try.size_far
          case hsize2 => rw [farArr_size]; exact Try.size_far
          case hs3 => rw [farArr_size, farArr_size]
          case hs4 => exact farArr_one d
          exact bodyPost_ret (v := .agg (farArr d)) (results_cell_row rfl _ _ (w.heap.size + 1) 60 (farArr d) (0, 0) _ rfl (setRow_heap _ _ _ _ _ _ hF.res) Try.underlying60 rfl (by rw [farArr_size]; exact Try.size_far)) rfl HF.out
        · obtain ⟨b, o, rfl, hb, hc⟩ := hown.rd.one (nats_at (l := n' :: t) (i := 0) (x := n') rfl)
          have hp0 := hF.planAt 0
          have hp1 := hF.planAt 1
          have hp2 := hF.planAt 2
          have hp3 := hF.planAt 3
          have hp4 := hF.planAt 4
          have hp5 := hF.planAt 5
          have hp6 := hF.planAt 6
          simp at hp0 hp1 hp2 hp3 hp4 hp5 hp6 hc
          have hRd := h.below hF.below (Nat.le_refl _)
          have hRd' : Rd wr wr.heap.size 3 A L.length (L.flatMap lkCells) := hRd.more hF.below.size
          go_wp2_with fail
          refine (around_any L f n' _ a0 a1 a2 a3 a5 a6 A c hRd' hl).mono ?_
          rintro e w1 ⟨A3, c3, rfl, hown3, hb1⟩
          have hF1 := hF.call (hb1.mono hsz)
          have hown1 := hown.call hb1
          clear hp0 hp1 hp2 hp3 hp4 hp5 hp6 hc hRd hRd'
          go_wp2_with fail
          go_loopw [9, 37] (fun v i wx => InRel L f N n n' w #[a0, a1, a2, a3, .slice A L.length c, a5, a6] wr.heap.size A3 c3 gk v i wx)
            (fun _ i _ => (arL L f n' L.length).length - (intOf i).toNat)
          case atStart =>
            refine ⟨0, t, _, cq, d, rfl, Nat.zero_le _, rfl, hown1, hown3, ?_, hF1, hB, hq, hT, fun j i x hj => absurd hj (by omega), h25, hms⟩
            intro g hg h3
            have := hown3.from_ g h3
            simp [blk] at hg
            omega
          case round =>
            clear hown hF hB hq hT hms hF1 hown1 hown3 hb1
            obtain ⟨k, t, A4, c4, d, rfl, hk, rfl, hown, hown3, hdis, hF, hB, hq, hT, hS, h25, hms⟩ := hrel
            have hsz := hF.size
            have hkar := arL_le L f n' L.length
            by_cases hlt : k < (arL L f n' L.length).length
            · obtain ⟨i, hik⟩ : ∃ i, (arL L f n' L.length)[k]? = some i := ⟨_, List.getElem?_eq_getElem hlt⟩
              have har := mem_arL.1 (List.mem_of_getElem? hik)
              obtain ⟨x, hx⟩ : ∃ x, L[i]? = some x := ⟨_, List.getElem?_eq_getElem har.1⟩
              obtain ⟨m, hm, hmN, hadj⟩ := ar_oth hok hx har.2
              obtain ⟨b3, o3, rfl, hb3, hc3⟩ := hown3.rd.one (nats_at hik)
              obtain ⟨bl, ol, rfl, hbl, hc0, hc1, hc2⟩ := h.link hx
              rw [← hF.below.cell hbl] at hc0 hc1 hc2
              have hp4 := hF.planAt 4
              simp at hp4
              have hiL : i < L.length := har.1
              have HI := Lib.hid hik
              have HX := Lib.hid hx
              have HM := Lib.hid hm
              clear hik hx hm har
              go_wp2_with fail
              refine (other_any x.a x.b x.cost n' _).mono ?_
              rintro e w2 ⟨rfl, hb2⟩
              rw [HM.out]
              have hF2 := hF.call (hb2.mono hsz)
              have hownB := hown.call hb2
              have hownB3 := hown3.call hb2
              have hdm := hF2.at_ (show m < 12 by omega)
              have hn'N : n' < N := hq n' (by simp)
              have hdn := hF2.at_ (show n' < 12 by omega)
              have hfm := hF2.free m
              have hsz2 := hF2.size
              clear hp4 hc0 hc1 hc2 hc3
              by_cases hd : d m < 0
              · have hlen : (t.length + 1 + 1) * 8 ≤ 140737488355328 := by omega
                have hT1 := hT n'
                have hdn0 := hB.inq n' (by simp)
                go_wp2_with (first | (at_builtin; refine wpList_app _ rfl _ _ 22 rfl (w.heap.size + 3) 3 i0 (.int .i64 0) 1 8 Try.underlying22 hi hz0 hz1 hz2 rfl (by decide) _ _ _ (nats (n' :: t)) rfl (by exact ((show Own _ _ _ _ _ _ _ _ from hownB.setCell_type (p := ⟨w.heap.size + 1 + 1, m, none⟩) hF2.out (by decide) _).alloc _)) _ 1 _ [.int .i64 m] rfl (Rd.new (by simp) rfl) (by intro u hu; simp at hu; subst hu; rfl) (by unfold maxLen; omega) (by omega) (by simp; omega) ?_; intro A2 c2 w2 hown2 hgrow2 hblk2 _))
                go_roundw
                case rel => exact in_hit hlt hownB hownB3 hdis hF2 hB hq hT hS h25 hms HI.out HX.out HM.out hd hmN hadj hown2 hgrow2 hblk2 _ rfl _ rfl
                case measure => simp [intOf]; omega
              · go_wp2
                go_roundw
                case rel => exact ⟨k + 1, t, A4, c4, d, by go_num, by omega, rfl, hownB, hownB3, hdis, hF2, hB, hq, hT, hS.step HI.out HX.out HM.out (by omega), h25, hms⟩
                case measure => simp [intOf]; omega
            · have hkk : k = (arL L f n' L.length).length := by omega
              have hall := Seen.all hok (by rw [← hkk]; exact hS)
              have HB := Lib.hid (hB.pop hall)
              clear hkk hall
              by_cases hc4 : c4 = 1
              · subst hc4
                have HT := Lib.hid (own_tail1 hown)
                have HQ := Lib.hid (show ∀ x ∈ t, x < N from fun x hx => hq x (by simp [hx]))
                go_wp2
                go_roundg (gk - 1)
                case measure => omega
                case rel => exact ⟨t, A4, 0, d, rfl, HT.out, hF, HB.out, HQ.out, hT, by omega, by omega⟩
              · have HT := Lib.hid (own_tail hown hc4)
                have HQ := Lib.hid (show ∀ x ∈ t, x < N from fun x hx => hq x (by simp [hx]))
                go_wp2
                go_roundg (gk - 1)
                case measure => omega
                case rel => exact ⟨t, _, c4 - 1, d, rfl, HT.out, hF, HB.out, HQ.out, hT, by omega, by omega⟩
end
end Go.Proofs.Ytidmpfenkgihjaa

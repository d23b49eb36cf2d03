/- The walks of package graph: around, other, from. Plain laws on graphs: balls, distances, and what a search in breadth keeps. No program here. The walk of graph.from: the search in breadth. -/
import Derived.Test.YtakolnmoieiicaaGreatBase
import Derived.Test.YtakolnmoieiicaaGreatRows
namespace Go.Proofs.YtakolnmoieiicaaGreat
set_option linter.unusedSimpArgs false
set_option linter.unusedVariables false
open Go.RowKit

section
def othV (xa xb n : Int) : Int := if n = xa then xb else if n = xb then xa else -1

theorem other_any (xa xb xc : Int) (n : Int) (w : World) : Calls Tryz.prog 96 #[.agg #[.int .i64 xa, .int .i64 xb, .int .i64 xc], .int .i64 n] w fun e w' => e = .returned (.int .i64 (othV xa xb n)) ∧ Below w.heap.size w w' := by
  by_cases h1 : n = xa
  · have b1 : (n == xa) = true := by simp [h1]
    have H1 := Lib.hid h1
    clear h1
    go_enter Tryz.func96, Tryz.ntmps96
    go_wp2
    go_ret
    exact ⟨ret_int (by rw [othV, if_pos H1.out]), (Below.refl _ _).alloc (Nat.le_refl _) _⟩
  · by_cases h2 : n = xb
    · have b1 : (n == xa) = false := by simp [h1]
      have b2 : (n == xb) = true := by simp [h2]
      have H1 := Lib.hid h1
      have H2 := Lib.hid h2
      clear h1 h2
      go_enter Tryz.func96, Tryz.ntmps96
      go_wp2
      go_ret
      exact ⟨ret_int (by rw [othV, if_neg H1.out, if_pos H2.out]), (Below.refl _ _).alloc (Nat.le_refl _) _⟩
    · have b1 : (n == xa) = false := by simp [h1]
      have b2 : (n == xb) = false := by simp [h2]
      have H1 := Lib.hid h1
      have H2 := Lib.hid h2
      clear h1 h2
      go_enter Tryz.func96, Tryz.ntmps96
      go_wp2
      go_ret
      exact ⟨ret_int (by rw [othV, if_neg H1.out, if_neg H2.out]), (Below.refl _ _).alloc (Nat.le_refl _) _⟩

def isAr (L : List Lk) (f n : Int) (i : Nat) : Bool :=
  match L[i]? with
  | some x => !hasB f i && (x.a == n || x.b == n)
  | none => false
def arL (L : List Lk) (f n : Int) (k : Nat) : List Nat := (List.range k).filter (isAr L f n)
theorem arL_le (L : List Lk) (f n : Int) (k : Nat) : (arL L f n k).length ≤ k := by
  have := List.length_filter_le (isAr L f n) (List.range k)
  simpa [arL] using this
theorem arL_hit {L : List Lk} {f n : Int} {k : Nat} (h : isAr L f n k = true) : arL L f n (k + 1) = arL L f n k ++ [k] := by
  simp [arL, List.range_succ, List.filter_append, h]
theorem arL_miss {L : List Lk} {f n : Int} {k : Nat} (h : isAr L f n k = false) : arL L f n (k + 1) = arL L f n k := by
  simp [arL, List.range_succ, List.filter_append, h]
def nats (l : List Nat) : List Value := l.map fun (i : Nat) => Value.int .i64 (i : Int)
theorem nats_snoc (l : List Nat) (k : Nat) : nats (l ++ [k]) = nats l ++ [Value.int .i64 (k : Int)] := by simp [nats]
theorem nats_at {l : List Nat} {i x : Nat} (h : l[i]? = some x) : (nats l)[i]? = some (.int .i64 (x : Int)) := by simp [nats, h]
theorem arL_zero (L : List Lk) (f n : Int) : arL L f n 0 = [] := by simp [arL]

/-- What around hands back: a slice of the call's own that holds the links. -/
def AroundPost (L : List Lk) (f n : Int) (w : World) (e : Ending) (w' : World) : Prop :=
  ∃ A c, e = .returned (.slice A (arL L f n L.length).length c) ∧ Own w' w.heap.size 3 1 A (arL L f n L.length).length c (nats (arL L f n L.length)) ∧ Below w.heap.size w w'

theorem ar_hit_step {w w1 w2 : World} {L : List Lk} {f n : Int} {k m : Nat} {A2 A1 : Option Addr} {c2 B : Nat} (hB : B = w.heap.size) (h : isAr L f n k = true) (hm : m = (arL L f n k).length + 1)
    (hown2 : Own w2 B 3 1 A2 m c2 (nats (arL L f n k) ++ [Value.int .i64 (k : Int)])) (hb : Below B w w1) (hg : w1.grownBy w2 (blk A1)) (hA : ∀ g, blk A1 = some g → B ≤ g) :
    m = (arL L f n (k + 1)).length ∧ Own w2 B 3 1 A2 (arL L f n (k + 1)).length c2 (nats (arL L f n (k + 1))) ∧ Below B w w2 := by
  have e : m = (arL L f n (k + 1)).length := by rw [arL_hit h, hm]; simp
  subst e
  refine ⟨rfl, ?_, hb.grown hg (by rw [hB]; exact hb.size) hA⟩
  rw [← nats_snoc, ← arL_hit h] at hown2
  exact hown2

set_option maxHeartbeats 1000000 in
theorem around_any (L : List Lk) (f n : Int) (w : World) (a0 a1 a2 a3 a5 a6 : Value) (A : Option Addr) (c : Nat) (h : Rd w w.heap.size 3 A L.length (L.flatMap lkCells)) (hl : L.length ≤ 1000) :
    Calls Tryz.prog 95 #[.agg #[a0, a1, a2, a3, .slice A L.length c, a5, a6], .int .i64 f, .int .i64 n] w (AroundPost L f n w) := by
  obtain ⟨i0, hi, hz0, hz1, hz2⟩ := info_parts Tryz.info_int
  go_enter Tryz.func95, Tryz.ntmps95
  go_wp2_with fail
  go_loopw [6, 12] (fun v i wr => ∃ (k : Nat) (A' : Option Addr) (c' : Nat), k ≤ L.length ∧ i = .int .i64 k ∧ v = .slice A' (arL L f n k).length c' ∧ Own wr w.heap.size 3 1 A' (arL L f n k).length c' (nats (arL L f n k)) ∧ Below w.heap.size w wr)
    (fun _ i _ => L.length - (intOf i).toNat)
  case atStart => exact ⟨0, none, 0, Nat.zero_le _, rfl, by rw [arL_zero]; rfl, by rw [arL_zero]; exact Own.nil _ _ _ _, (Below.refl _ _).alloc (Nat.le_refl _) _⟩
  case round =>
    obtain ⟨k, A', c', hk, rfl, rfl, hown, hbel⟩ := hrel
    have hsz := hbel.size
    have hle := arL_le L f n k
    by_cases hlt : k < L.length
    · obtain ⟨x, hx⟩ : ∃ x, L[k]? = some x := ⟨_, List.getElem?_eq_getElem hlt⟩
      obtain ⟨b, o, rfl, hb, hc0, hc1, hc2⟩ := h.link hx
      rw [← hbel.cell hb] at hc0 hc1 hc2
      have HX := Lib.hid hx
      clear hx h
      by_cases hh : hasB f k = true
      · have HM : isAr L f n k = false := by simp [isAr, HX.out, hh]
        have HM := Lib.hid HM
        go_wp2_with (go_at_call 117; refine (has_any _ _ _).mono ?_; rintro e w' ⟨rfl, rfl⟩)
        go_roundw
        case rel => exact ⟨k + 1, A', c', by omega, by go_num, by rw [arL_miss HM.out], by rw [arL_miss HM.out]; exact hown.alloc _, hbel.alloc hsz _⟩
        case measure => simp [intOf]; omega
      · have hh : hasB f k = false := by simpa using hh
        by_cases ha : x.a = n
        · have hab : (x.a == n) = true := by simp [ha]
          have HM : isAr L f n k = true := by simp [isAr, HX.out, hh, ha]
          have HM := Lib.hid HM
          clear ha
          go_wp2_with (first | (go_at_call 117; refine (has_any _ _ _).mono ?_; rintro e w' ⟨rfl, rfl⟩) | (at_builtin; refine wpList_app _ rfl _ _ 22 rfl w.heap.size 3 i0 (.int .i64 0) 1 8 Tryz.underlying22 hi hz0 hz1 hz2 rfl (by decide) _ _ _ (nats (arL L f n k)) rfl (by exact (hown.alloc _).alloc _) _ 1 _ [.int .i64 k] rfl (Rd.new (by simp) rfl) (by intro u hu; simp at hu; subst hu; rfl) (by unfold maxLen; omega) (by omega) (by simp; omega) ?_; intro A2 c2 w2 hown2 hgrow2 hblk2 _))
          have R := ar_hit_step rfl HM.out rfl hown2 ((hbel.alloc hsz _).alloc (by simp; omega) _) hgrow2 hown.from_
          go_roundw
          case rel => exact ⟨k + 1, A2, c2, by omega, by go_num, by rw [← R.1], R.2.1, R.2.2⟩
          case measure => simp [intOf]; omega
        · have hab : (x.a == n) = false := by simp [ha]
          by_cases hbb : x.b = n
          · have hbe : (x.b == n) = true := by simp [hbb]
            have HM : isAr L f n k = true := by simp [isAr, HX.out, hh, hbb]
            have HM := Lib.hid HM
            clear ha hbb
            go_wp2_with (first | (go_at_call 117; refine (has_any _ _ _).mono ?_; rintro e w' ⟨rfl, rfl⟩) | (at_builtin; refine wpList_app _ rfl _ _ 22 rfl w.heap.size 3 i0 (.int .i64 0) 1 8 Tryz.underlying22 hi hz0 hz1 hz2 rfl (by decide) _ _ _ (nats (arL L f n k)) rfl (by exact (hown.alloc _).alloc _) _ 1 _ [.int .i64 k] rfl (Rd.new (by simp) rfl) (by intro u hu; simp at hu; subst hu; rfl) (by unfold maxLen; omega) (by omega) (by simp; omega) ?_; intro A2 c2 w2 hown2 hgrow2 hblk2 _))
            have R := ar_hit_step rfl HM.out rfl hown2 ((hbel.alloc hsz _).alloc (by simp; omega) _) hgrow2 hown.from_
            go_roundw
            case rel => exact ⟨k + 1, A2, c2, by omega, by go_num, by rw [← R.1], R.2.1, R.2.2⟩
            case measure => simp [intOf]; omega
          · have hbe : (x.b == n) = false := by simp [hbb]
            have HM : isAr L f n k = false := by simp [isAr, HX.out, hh, ha, hbb]
            have HM := Lib.hid HM
            clear ha hbb
            go_wp2_with (go_at_call 117; refine (has_any _ _ _).mono ?_; rintro e w' ⟨rfl, rfl⟩)
            go_roundw
            case rel => exact ⟨k + 1, A', c', by omega, by go_num, by rw [arL_miss HM.out], by rw [arL_miss HM.out]; exact hown.alloc _, hbel.alloc hsz _⟩
            case measure => simp [intOf]; omega
    · have hk' : k = L.length := by omega
      have hfin : AroundPost L f n w (.returned (.slice A' (arL L f n k).length c')) wr := by
        subst hk'
        exact ⟨A', c', rfl, hown, hbel⟩
      have HF := Lib.hid hfin
      clear hk' hfin h
      go_wp2
      go_ret
      exact HF.out
end

section
namespace Gr

/-- b is at most k steps from a. -/
def Ball (R : Nat → Nat → Prop) : Nat → Nat → Nat → Prop
  | 0, a, b => a = b
  | k + 1, a, b => Ball R k a b ∨ ∃ u, Ball R k a u ∧ R u b

section
variable {R : Nat → Nat → Prop}
theorem Ball.succ {k a b : Nat} (h : Ball R k a b) : Ball R (k + 1) a b := .inl h
theorem Ball.mono {k m a b : Nat} (h : Ball R k a b) (hm : k ≤ m) : Ball R m a b := by
  induction hm with
  | refl => exact h
  | step _ ih => exact .inl ih
theorem Ball.step {k a u b : Nat} (h : Ball R k a u) (hr : R u b) : Ball R (k + 1) a b := .inr ⟨u, h, hr⟩
theorem Ball.trans {j k a b c : Nat} (h : Ball R j a b) (h' : Ball R k b c) : Ball R (j + k) a c := by
  induction k generalizing c with
  | zero => cases h'; exact h
  | succ k ih =>
    rcases h' with h' | ⟨u, h', hr⟩
    · exact (ih h').succ
    · exact (ih h').step hr
theorem Ball.symm (hs : ∀ u v, R u v → R v u) {k a b : Nat} (h : Ball R k a b) : Ball R k b a := by
  induction k generalizing b with
  | zero => exact Eq.symm h
  | succ k ih =>
    rcases h with h | ⟨u, h, hr⟩
    · exact (ih h).succ
    · have h1 : Ball R 1 b u := .inr ⟨b, rfl, hs _ _ hr⟩
      have := h1.trans (ih h)
      rwa [Nat.add_comm] at this
theorem Ball.sub {R' : Nat → Nat → Prop} (hR : ∀ u v, R u v → R' u v) {k a b : Nat} (h : Ball R k a b) : Ball R' k a b := by
  induction k generalizing b with
  | zero => exact h
  | succ k ih =>
    rcases h with h | ⟨u, h, hr⟩
    · exact .inl (ih h)
    · exact .inr ⟨u, ih h, hR _ _ hr⟩
theorem Ball.lt {N : Nat} (hN : ∀ u v, R u v → v < N) {k a b : Nat} (ha : a < N) (h : Ball R k a b) : b < N := by
  induction k generalizing b with
  | zero => cases h; exact ha
  | succ k ih =>
    rcases h with h | ⟨u, h, hr⟩
    · exact ih h
    · exact hN _ _ hr
end

/-- h is how many steps b is from a; -1: none lead there. -/
def IsHops (R : Nat → Nat → Prop) (a b : Nat) (h : Int) : Prop :=
  (h = -1 ∧ ∀ k, ¬ Ball R k a b) ∨ ∃ n : Nat, h = n ∧ Ball R n a b ∧ ∀ k, Ball R k a b → n ≤ k

/-- What a search in breadth from a keeps: d the distances so far, q the nodes that are still to be looked at. -/
structure BInv (R : Nat → Nat → Prop) (N a : Nat) (d : Nat → Int) (q : List Nat) : Prop where
  start : d a = 0
  low : ∀ v, -1 ≤ d v
  far : ∀ v, N ≤ v → d v = -1
  ball : ∀ v, 0 ≤ d v → Ball R (d v).toNat a v
  inq : ∀ v ∈ q, 0 ≤ d v
  done : ∀ u, 0 ≤ d u → u ∉ q → ∀ v, R u v → 0 ≤ d v ∧ d v ≤ d u + 1
  sorted : q.Pairwise (fun x y => d x ≤ d y)
  near : ∀ x, q.head? = some x → ∀ v, d v ≤ d x + 1

def upd (d : Nat → Int) (m : Nat) (x : Int) : Nat → Int := fun v => if v = m then x else d v

section
variable {R : Nat → Nat → Prop} {N a : Nat} {d : Nat → Int} {q : List Nat}
theorem BInv.begin (ha : a < N) : BInv R N a (upd (fun _ => -1) a 0) [a] where
  start := by simp [upd]
  low := fun v => by unfold upd; split <;> simp
  far := fun v hv => by unfold upd; rw [if_neg (by omega)]
  ball := fun v hv => by
    by_cases e : v = a
    · subst e; simp [upd, Ball]
    · simp [upd, e] at hv
  inq := fun v hv => by simp at hv; subst hv; simp [upd]
  done := fun u hu hn => by
    by_cases e : u = a
    · subst e; simp at hn
    · simp [upd, e] at hu
  sorted := by simp
  near := fun x hx v => by
    simp at hx; subst hx
    by_cases e : v = a <;> simp [upd, e]

/-- A node that was not found yet is found from the head. -/
theorem BInv.find {n m : Nat} {t : List Nat} (h : BInv R N a d (n :: t)) (hm : d m < 0) (hr : R n m) (hmN : m < N) : BInv R N a (upd d m (d n + 1)) (n :: t ++ [m]) := by
  have hn : 0 ≤ d n := h.inq n (by simp)
  have hnm : n ≠ m := by rintro rfl; omega
  have hq : ∀ v ∈ n :: t, v ≠ m := fun v hv e => by subst e; have := h.inq v hv; omega
  have hd : ∀ v, v ≠ m → upd d m (d n + 1) v = d v := fun v hv => by simp [upd, hv]
  have hdm : upd d m (d n + 1) m = d n + 1 := by simp [upd]
  refine ⟨?_, ?_, ?_, ?_, ?_, ?_, ?_, ?_⟩
  · rw [hd a (by rintro rfl; have := h.start; omega)]; exact h.start
  · intro v
    by_cases e : v = m
    · subst e; rw [hdm]; omega
    · rw [hd v e]; exact h.low v
  · intro v hv
    rw [hd v (by omega)]; exact h.far v hv
  · intro v hv
    by_cases e : v = m
    · subst e
      rw [hdm, show (d n + 1).toNat = (d n).toNat + 1 from by omega]
      exact (h.ball n hn).step hr
    · rw [hd v e] at hv ⊢; exact h.ball v hv
  · intro v hv
    rcases List.mem_append.1 hv with hv | hv
    · rw [hd v (hq v hv)]; exact h.inq v hv
    · simp at hv; subst hv; rw [hdm]; omega
  · intro u hu hnq v hv
    have hum : u ≠ m := fun e => hnq (by simp [e])
    have hu' : 0 ≤ d u := by rwa [hd u hum] at hu
    have := h.done u hu' (fun hh => hnq (List.mem_append_left _ hh)) v hv
    rw [hd u hum]
    by_cases e : v = m
    · subst e; omega
    · rw [hd v e]; exact this
  · rw [List.pairwise_append]
    refine ⟨?_, by simp, ?_⟩
    · exact h.sorted.imp_of_mem fun {x y} hx hy hxy => by rw [hd x (hq x hx), hd y (hq y hy)]; exact hxy
    · intro x hx y hy
      simp at hy; subst hy
      rw [hd x (hq x hx), hdm]
      have := h.near n rfl x
      omega
  · intro x hx v
    have hx' : x = n := by simpa using hx.symm
    subst hx'
    rw [hd x hnm]
    by_cases e : v = m
    · subst e; rw [hdm]; omega
    · rw [hd v e]; exact h.near x rfl v

/-- The head has been looked at: all its neighbours are found. -/
theorem BInv.pop {n : Nat} {t : List Nat} (h : BInv R N a d (n :: t)) (hall : ∀ v, R n v → 0 ≤ d v) : BInv R N a d t where
  start := h.start
  low := h.low
  far := h.far
  ball := h.ball
  inq := fun v hv => h.inq v (by simp [hv])
  done := fun u hu hnq v hv => by
    by_cases e : u = n
    · subst e; exact ⟨hall v hv, h.near u rfl v⟩
    · exact h.done u hu (by simp [e, hnq]) v hv
  sorted := (List.pairwise_cons.1 h.sorted).2
  near := fun x hx v => by
    have h1 := h.near n rfl v
    have h2 := (List.pairwise_cons.1 h.sorted).1 x (List.mem_of_mem_head? (by simp [hx]))
    omega

theorem BInv.end_ (h : BInv R N a d []) (b : Nat) : IsHops R a b (d b) := by
  have key : ∀ k b, Ball R k a b → 0 ≤ d b ∧ d b ≤ k := by
    intro k
    induction k with
    | zero =>
      intro b hb
      cases hb
      rw [h.start]; simp
    | succ k ih =>
      intro b hb
      rcases hb with hb | ⟨u, hb, hr⟩
      · have := ih b hb; omega
      · have h1 := ih u hb
        have h2 := h.done u h1.1 (by simp) b hr
        omega
  by_cases hb : 0 ≤ d b
  · refine .inr ⟨(d b).toNat, by omega, h.ball b hb, fun k hk => ?_⟩
    have := key k b hk
    omega
  · have hl := h.low b
    exact .inl ⟨by omega, fun k hk => hb (key k b hk).1⟩

/-- How many of the nodes below N are not found yet. -/
def und (d : Nat → Int) (N : Nat) : Nat := ((List.range N).filter fun v => d v < 0).length
theorem und_upd {m : Nat} {x : Int} : ∀ {N : Nat}, d m < 0 → 0 ≤ x → m < N → und (upd d m x) N + 1 = und d N := by
  intro N
  induction N with
  | zero => intro _ _ h; omega
  | succ N ih =>
    intro hm hx hN
    unfold und
    rw [List.range_succ, List.filter_append, List.length_append, List.filter_append, List.length_append]
    by_cases e : m = N
    · subst e
      have h1 : (List.range m).filter (fun v => decide (upd d m x v < 0)) = (List.range m).filter (fun v => decide (d v < 0)) := by
        apply List.filter_congr
        intro v hv
        have : v ≠ m := by have := List.mem_range.1 hv; omega
        simp [upd, this]
      rw [h1]
      have h2 : ([m].filter fun v => decide (upd d m x v < 0)) = [] := by simp [upd]; omega
      have h3 : ([m].filter fun v => decide (d v < 0)) = [m] := by simp; omega
      rw [h2, h3]; simp
    · have := ih hm hx (by omega)
      unfold und at this
      have h2 : ([N].filter fun v => decide (upd d m x v < 0)) = ([N].filter fun v => decide (d v < 0)) := by
        have : N ≠ m := fun h => e h.symm
        simp [upd, List.filter_cons, this]
      rw [h2]; omega
theorem und_none {N : Nat} : und (fun _ => -1) N = N := by
  unfold und
  rw [List.filter_eq_self.2 (fun _ _ => by simp)]
  simp
theorem und_le (d : Nat → Int) (N : Nat) : und d N ≤ N := by
  have := List.length_filter_le (fun v => decide (d v < 0)) (List.range N)
  simpa [und] using this
/-- No distance is as great as the number of nodes. -/
def Top (d : Nat → Int) (N : Nat) : Prop := ∀ v, d v + und d N + 1 ≤ N
theorem Top.begin {a N : Nat} (ha : a < N) : Top (upd (fun _ => -1) a 0) N := by
  intro v
  have h := und_upd (d := fun _ => -1) (m := a) (x := 0) (N := N) (by simp) (by simp) ha
  rw [und_none] at h
  by_cases e : v = a
  · have : upd (fun _ => -1) a 0 v = 0 := by simp [upd, e]
    omega
  · have : upd (fun _ => -1) a 0 v = -1 := by simp [upd, e]
    omega
theorem Top.find {d : Nat → Int} {n m N : Nat} (h : Top d N) (hn : 0 ≤ d n) (hm : d m < 0) (hmN : m < N) : Top (upd d m (d n + 1)) N := by
  intro v
  have h1 := und_upd (d := d) (m := m) (x := d n + 1) (N := N) hm (by omega) hmN
  have h2 := h n
  have h3 := h v
  by_cases e : v = m
  · subst e
    have : upd d v (d n + 1) v = d n + 1 := by simp [upd]
    omega
  · have : upd d m (d n + 1) v = d v := by simp [upd, e]
    omega
end
end Gr
end

section
/-- Two nodes are ends of a link that has not failed. -/
def Adj (L : List Lk) (f : Int) (u v : Nat) : Prop := ∃ (i : Nat) (x : Lk), L[i]? = some x ∧ hasB f i = false ∧ ((x.a = u ∧ x.b = v) ∨ (x.b = u ∧ x.a = v))
/-- Links between nodes below N, from a lower one to a higher one. -/
def LksOk (L : List Lk) (N : Nat) : Prop := ∀ x ∈ L, 0 ≤ x.a ∧ x.a < x.b ∧ x.b < N

/-- The array of twelve distances. -/
def farArr (d : Nat → Int) : Array Value := ((List.range 12).map fun i => Value.int .i64 (d i)).toArray
theorem farArr_size (d : Nat → Int) : (farArr d).size = 12 := by simp [farArr]
theorem farArr_one (d : Nat → Int) : (farArr d).all (·.oneCell') = true := by simp [farArr, Value.oneCell']
theorem farArr_at (d : Nat → Int) {i : Nat} (h : i < 12) : (farArr d)[i]? = some (.int .i64 (d i)) := by simp [farArr, h]
theorem farArr_set (d : Nat → Int) {m : Nat} (x : Int) : (farArr d).setIfInBounds m (.int .i64 x) = farArr (Gr.upd d m x) := by
  apply Array.ext_getElem?
  intro i
  rw [Array.getElem?_setIfInBounds]
  by_cases hi : i < 12
  · rw [farArr_at _ hi, farArr_at _ hi]
    by_cases e : m = i
    · subst e; simp [farArr, hi, Gr.upd]
    · have e' : i ≠ m := fun h => e h.symm
      simp [e, e', Gr.upd]
  · rw [Array.getElem?_eq_none (by rw [farArr_size]; omega), Array.getElem?_eq_none (by rw [farArr_size]; omega)]
    split <;> simp_all [farArr]

section
variable {w wr w' : World} {cs : Array Value} {d : Nat → Int}
end

/-! ### Neighbours -/
theorem mem_arL {L : List Lk} {f n : Int} {k i : Nat} : i ∈ arL L f n k ↔ i < k ∧ isAr L f n i = true := by simp [arL]
theorem ar_oth {L : List Lk} {f : Int} {N n i : Nat} {x : Lk} (hok : LksOk L N) (hx : L[i]? = some x) (har : isAr L f n i = true) : ∃ m : Nat, othV x.a x.b n = m ∧ m < N ∧ Adj L f n m := by
  have ho := hok x (List.mem_of_getElem? hx)
  simp only [isAr, hx, Bool.and_eq_true, Bool.not_eq_true', Bool.or_eq_true, beq_iff_eq] at har
  obtain ⟨hh, h1 | h1⟩ := har
  · refine ⟨x.b.toNat, ?_, by omega, i, x, hx, hh, .inl ⟨h1, by omega⟩⟩
    unfold othV; rw [if_pos h1.symm]; omega
  · refine ⟨x.a.toNat, ?_, by omega, i, x, hx, hh, .inr ⟨h1, by omega⟩⟩
    unfold othV; rw [if_neg (by omega), if_pos h1.symm]; omega
theorem adj_ar {L : List Lk} {f : Int} {N n v : Nat} (hok : LksOk L N) (h : Adj L f n v) : ∃ i x, L[i]? = some x ∧ isAr L f n i = true ∧ othV x.a x.b n = v := by
  obtain ⟨i, x, hx, hh, hab⟩ := h
  have ho := hok x (List.mem_of_getElem? hx)
  refine ⟨i, x, hx, ?_, ?_⟩
  · simp only [isAr, hx, hh, Bool.not_false, Bool.true_and, Bool.or_eq_true, beq_iff_eq]
    rcases hab with ⟨h1, _⟩ | ⟨h1, _⟩
    · exact .inl h1
    · exact .inr h1
  · unfold othV
    rcases hab with ⟨h1, h2⟩ | ⟨h1, h2⟩
    · rw [if_pos h1.symm]; exact h2
    · rw [if_neg (by omega), if_pos h1.symm]; exact h2

/-- The ends of the first k links around n have been found. -/
def Seen (L : List Lk) (f : Int) (n : Nat) (d : Nat → Int) (k : Nat) : Prop :=
  ∀ j i x, j < k → (arL L f n L.length)[j]? = some i → L[i]? = some x → 0 ≤ d (othV x.a x.b n).toNat
theorem Seen.step {L : List Lk} {f : Int} {n k i m : Nat} {x : Lk} {d : Nat → Int} (h : Seen L f n d k) (hi : (arL L f n L.length)[k]? = some i) (hx : L[i]? = some x) (hm : othV x.a x.b n = m) (hd : 0 ≤ d m) : Seen L f n d (k + 1) := by
  intro j i' x' hj hi' hx'
  by_cases e : j = k
  · subst e
    rw [hi] at hi'
    injection hi' with hi'
    subst hi'
    rw [hx] at hx'
    injection hx' with hx'
    subst hx'
    rw [hm]; simpa using hd
  · exact h j i' x' (by omega) hi' hx'
theorem Seen.upd {L : List Lk} {f : Int} {n k m : Nat} {d : Nat → Int} {v : Int} (h : Seen L f n d k) (hv : 0 ≤ v) : Seen L f n (Gr.upd d m v) k := by
  intro j i x hj hi hx
  unfold Gr.upd
  split
  · exact hv
  · exact h j i x hj hi hx
theorem Seen.all {L : List Lk} {f : Int} {N n : Nat} {d : Nat → Int} (hok : LksOk L N) (h : Seen L f n d (arL L f n L.length).length) : ∀ v, Adj L f n v → 0 ≤ d v := by
  intro v hv
  obtain ⟨i, x, hx, har, ho⟩ := adj_ar hok hv
  have hmem : i ∈ arL L f n L.length := mem_arL.2 ⟨(List.getElem?_eq_some_iff.1 hx).1, har⟩
  obtain ⟨j, hj, hji⟩ := List.mem_iff_getElem.1 hmem
  have := h j i x hj (by rw [List.getElem?_eq_getElem hj, hji]) hx
  rw [ho] at this
  simpa using this
theorem nats_cut (q : List Nat) : (nats q).drop (1 * 1) = nats q.tail := by cases q <;> simp [nats]

/-- What from hands back. -/
def FromPost (L : List Lk) (f : Int) (N n : Nat) (w : World) (e : Ending) (w' : World) : Prop :=
  ∃ d : Nat → Int, e = .returned (.agg (farArr d)) ∧ (∀ b, Gr.IsHops (Adj L f) n b (d b)) ∧ (∀ b, d b < N) ∧ Below w.heap.size w w'
theorem upd_zero (n : Nat) : farArr (Gr.upd (fun v => if v < 12 then -1 else 0) n 0) = farArr (Gr.upd (fun _ => -1) n 0) := by
  apply Array.ext_getElem?
  intro i
  by_cases hi : i < 12
  · rw [farArr_at _ hi, farArr_at _ hi]; simp [Gr.upd, hi]
  · rw [Array.getElem?_eq_none (by rw [farArr_size]; omega), Array.getElem?_eq_none (by rw [farArr_size]; omega)]

theorem own_tail {w : World} {B e c : Nat} {A : Option Addr} {n : Nat} {t : List Nat} (h : Own w B e 1 A (t.length + 1) c (nats (n :: t))) (hc : c ≠ 1) :
    Own w B e 1 (Option.map (fun x => { block := x.block, off := x.off + 1 }) A) t.length (c - 1) (nats t) := by
  have := h.cut (k := 1) (by omega)
  rw [if_neg hc] at this
  exact this
theorem own_tail1 {w : World} {B e : Nat} {A : Option Addr} {n : Nat} {t : List Nat} (h : Own w B e 1 A (t.length + 1) 1 (nats (n :: t))) :
    Own w B e 1 A t.length 0 (nats t) := by
  have := h.cut (k := 1) (by omega)
  rw [if_pos rfl] at this
  exact this

end
end Go.Proofs.YtakolnmoieiicaaGreat

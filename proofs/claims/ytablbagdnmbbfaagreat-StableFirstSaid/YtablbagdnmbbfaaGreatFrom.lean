/- The walk of graph.from: the search in breadth. -/
import Derived.Test.YtablbagdnmbbfaaGreatGraphW
import Derived.Test.YtablbagdnmbbfaaGreatHops
namespace Go.Proofs.YtablbagdnmbbfaaGreat
set_option linter.unusedSimpArgs false
set_option linter.unusedVariables false
open Go.RowKit

/-- Two nodes are ends of a link that has not failed. -/
def Adj (L : List Lk) (f : Int) (u v : Nat) : Prop := ∃ (i : Nat) (x : Lk), L[i]? = some x ∧ hasB f i = false ∧ ((x.a = u ∧ x.b = v) ∨ (x.b = u ∧ x.a = v))
/-- Links between nodes below N, from a lower one to a higher one. -/
def LksOk (L : List Lk) (N : Nat) : Prop := ∀ x ∈ L, 0 ≤ x.a ∧ x.a < x.b ∧ x.b < N

/-- The array of twelve distances. -/
def farArr (d : Nat → Int) : Array Value := ((List.range 12).map fun i => Value.int .i64 (d i)).toArray
theorem Tryz.size_far : (Tryz.prog.info? 87).map (·.size) = some 12 := by kernel_rfl
theorem farArr_size (d : Nat → Int) : (farArr d).size = 12 := by simp [farArr]
theorem farArr_one (d : Nat → Int) : (farArr d).all (·.oneCell') = true := by simp [farArr, Value.oneCell']
theorem farArr_at (d : Nat → Int) {i : Nat} (h : i < 12) : (farArr d)[i]? = some (.int .i64 (d i)) := by simp [farArr, h]
theorem farArr_set (d : Nat → Int) {m : Nat} (x : Int) : (farArr d).setIfInBounds m (.int .i64 x) = farArr (Gr.upd d m x) := by
  apply Array.ext_getElem?
  intro i
  rw [Array.getElem?_setIfInBounds]
  by_cases hi : i < 12
  · rw [farArr_at _ hi, farArr_at _ hi]
    by_cases e : m = i
    · subst e; simp [farArr, hi, Gr.upd]
    · have e' : i ≠ m := fun h => e h.symm
      simp [e, e', Gr.upd]
  · rw [Array.getElem?_eq_none (by rw [farArr_size]; omega), Array.getElem?_eq_none (by rw [farArr_size]; omega)]
    split <;> simp_all [farArr]

/-- The blocks of the walk: the network's copy, the result, and the distances so far. -/
structure FromW (w wr : World) (cs : Array Value) (d : Nat → Int) : Prop where
  below : Below w.heap.size w wr
  size : w.heap.size + 3 ≤ wr.heap.size
  plan : wr.heap[w.heap.size]? = some (.cells cs 30 (0, 0))
  res : wr.heap[w.heap.size + 1]? = some (.cells (farArr fun _ => 0) 87 (0, 0))
  out : wr.heap[w.heap.size + 1 + 1]? = some (.cells (farArr d) 87 (0, 0))
section
variable {w wr w' : World} {cs : Array Value} {d : Nat → Int}
theorem FromW.begin : FromW w (((w.alloc (.cells cs 30)).alloc (.cells (farArr fun _ => 0) 87)).alloc (.cells (farArr fun _ => 0) 87)) cs (fun _ => 0) where
  below := (((Below.refl _ _).alloc (Nat.le_refl _) _).alloc (by simp) _).alloc (by simp; omega) _
  size := by simp
  plan := by exact (Below.heap_alloc _ _ _ (by simp; omega)).trans ((Below.heap_alloc _ _ _ (by simp)).trans (heap_alloc_new _ _))
  res := by
    refine (Below.heap_alloc _ _ _ (by simp)).trans ?_
    have := heap_alloc_new (w.alloc (.cells cs 30)) (.cells (farArr fun _ => 0) 87)
    simpa using this
  out := by
    have := heap_alloc_new ((w.alloc (.cells cs 30)).alloc (.cells (farArr fun _ => 0) 87)) (.cells (farArr fun _ => 0) 87)
    simpa using this
/-- Behind steps that turn nothing of what was there. -/
theorem FromW.call (h : FromW w wr cs d) (hb : Below (w.heap.size + 3) wr w') : FromW w w' cs d where
  below := h.below.trans (hb.mono (by omega))
  size := Nat.le_trans h.size hb.size
  plan := (hb.block _ (by omega)).trans h.plan
  res := (hb.block _ (by omega)).trans h.res
  out := (hb.block _ (by omega)).trans h.out
theorem FromW.set (h : FromW w wr cs d) (m : Nat) (x : Int) : FromW w (wr.setCell ⟨w.heap.size + 1 + 1, m, none⟩ (.int .i64 x)) cs (Gr.upd d m x) where
  below := h.below.setCell (by simp; omega) _
  size := by simpa [World.setCell] using h.size
  plan := (Below.heap_setCell _ _ _ _ (by simp; omega)).trans h.plan
  res := (Below.heap_setCell _ _ _ _ (by simp)).trans h.res
  out := by rw [heap_setCell_same wr _ m _ _ _ h.out, farArr_set]
theorem FromW.at_ (h : FromW w wr cs d) {m : Nat} (hm : m < 12) : wr.cell? ⟨w.heap.size + 1 + 1, m, none⟩ = some (.int .i64 (d m)) := by
  rw [cell_of_row wr _ m _ _ _ h.out, farArr_at _ hm]
theorem FromW.free (h : FromW w wr cs d) (m : Nat) : wr.frozen? ⟨w.heap.size + 1 + 1, m, none⟩ = false := frozen_of_row wr _ m _ _ h.out
theorem FromW.planAt (h : FromW w wr cs d) (m : Nat) : wr.cell? ⟨w.heap.size, m, none⟩ = cs[m]? := cell_of_row wr _ m _ _ _ h.plan
end

/-! ### Neighbours -/
theorem mem_arL {L : List Lk} {f n : Int} {k i : Nat} : i ∈ arL L f n k ↔ i < k ∧ isAr L f n i = true := by simp [arL]
theorem ar_oth {L : List Lk} {f : Int} {N n i : Nat} {x : Lk} (hok : LksOk L N) (hx : L[i]? = some x) (har : isAr L f n i = true) : ∃ m : Nat, othV x.a x.b n = m ∧ m < N ∧ Adj L f n m := by
  have ho := hok x (List.mem_of_getElem? hx)
  simp only [isAr, hx, Bool.and_eq_true, Bool.not_eq_true', Bool.or_eq_true, beq_iff_eq] at har
  obtain ⟨hh, h1 | h1⟩ := har
  · refine ⟨x.b.toNat, ?_, by omega, i, x, hx, hh, .inl ⟨h1, by omega⟩⟩
    unfold othV; rw [if_pos h1.symm]; omega
  · refine ⟨x.a.toNat, ?_, by omega, i, x, hx, hh, .inr ⟨h1, by omega⟩⟩
    unfold othV; rw [if_neg (by omega), if_pos h1.symm]; omega
theorem adj_ar {L : List Lk} {f : Int} {N n v : Nat} (hok : LksOk L N) (h : Adj L f n v) : ∃ i x, L[i]? = some x ∧ isAr L f n i = true ∧ othV x.a x.b n = v := by
  obtain ⟨i, x, hx, hh, hab⟩ := h
  have ho := hok x (List.mem_of_getElem? hx)
  refine ⟨i, x, hx, ?_, ?_⟩
  · simp only [isAr, hx, hh, Bool.not_false, Bool.true_and, Bool.or_eq_true, beq_iff_eq]
    rcases hab with ⟨h1, _⟩ | ⟨h1, _⟩
    · exact .inl h1
    · exact .inr h1
  · unfold othV
    rcases hab with ⟨h1, h2⟩ | ⟨h1, h2⟩
    · rw [if_pos h1.symm]; exact h2
    · rw [if_neg (by omega), if_pos h1.symm]; exact h2

/-- The ends of the first k links around n have been found. -/
def Seen (L : List Lk) (f : Int) (n : Nat) (d : Nat → Int) (k : Nat) : Prop :=
  ∀ j i x, j < k → (arL L f n L.length)[j]? = some i → L[i]? = some x → 0 ≤ d (othV x.a x.b n).toNat
theorem Seen.step {L : List Lk} {f : Int} {n k i m : Nat} {x : Lk} {d : Nat → Int} (h : Seen L f n d k) (hi : (arL L f n L.length)[k]? = some i) (hx : L[i]? = some x) (hm : othV x.a x.b n = m) (hd : 0 ≤ d m) : Seen L f n d (k + 1) := by
  intro j i' x' hj hi' hx'
  by_cases e : j = k
  · subst e
    rw [hi] at hi'
    injection hi' with hi'
    subst hi'
    rw [hx] at hx'
    injection hx' with hx'
    subst hx'
    rw [hm]; simpa using hd
  · exact h j i' x' (by omega) hi' hx'
theorem Seen.upd {L : List Lk} {f : Int} {n k m : Nat} {d : Nat → Int} {v : Int} (h : Seen L f n d k) (hv : 0 ≤ v) : Seen L f n (Gr.upd d m v) k := by
  intro j i x hj hi hx
  unfold Gr.upd
  split
  · exact hv
  · exact h j i x hj hi hx
theorem Seen.all {L : List Lk} {f : Int} {N n : Nat} {d : Nat → Int} (hok : LksOk L N) (h : Seen L f n d (arL L f n L.length).length) : ∀ v, Adj L f n v → 0 ≤ d v := by
  intro v hv
  obtain ⟨i, x, hx, har, ho⟩ := adj_ar hok hv
  have hmem : i ∈ arL L f n L.length := mem_arL.2 ⟨(List.getElem?_eq_some_iff.1 hx).1, har⟩
  obtain ⟨j, hj, hji⟩ := List.mem_iff_getElem.1 hmem
  have := h j i x hj (by rw [List.getElem?_eq_getElem hj, hji]) hx
  rw [ho] at this
  simpa using this
theorem nats_cut (q : List Nat) : (nats q).drop (1 * 1) = nats q.tail := by cases q <;> simp [nats]

/-- What the walk keeps at the head of its main loop. -/
def MainRel (L : List Lk) (f : Int) (N n : Nat) (w : World) (cs : Array Value) (gk : Nat) (v : Value) (wr : World) : Prop :=
  ∃ (q : List Nat) (A : Option Addr) (c : Nat) (d : Nat → Int), v = .slice A q.length c ∧ Own wr (w.heap.size + 3) 3 1 A q.length c (nats q) ∧ FromW w wr cs d ∧ Gr.BInv (Adj L f) N n d q ∧ (∀ x ∈ q, x < N) ∧ Gr.Top d N ∧ gk ≤ 25 ∧ 2 * Gr.und d N + q.length ≤ gk
/-- What the walk keeps at the head of its inner loop: k links around n' have been looked at; t stands behind n'. -/
def InRel (L : List Lk) (f : Int) (N n n' : Nat) (w : World) (cs : Array Value) (B3 : Nat) (A3 : Option Addr) (c3 M : Nat) (v i : Value) (wr : World) : Prop :=
  ∃ (k : Nat) (t : List Nat) (A : Option Addr) (c : Nat) (d : Nat → Int), i = .int .i64 k ∧ k ≤ (arL L f n' L.length).length ∧ v = .slice A (t.length + 1) c ∧ Own wr (w.heap.size + 3) 3 1 A (t.length + 1) c (nats (n' :: t)) ∧
    Own wr B3 3 1 A3 (arL L f n' L.length).length c3 (nats (arL L f n' L.length)) ∧ (∀ g, blk A = some g → blk A3 ≠ some g) ∧ FromW w wr cs d ∧ Gr.BInv (Adj L f) N n d (n' :: t) ∧ (∀ x ∈ n' :: t, x < N) ∧ Gr.Top d N ∧
    Seen L f n' d k ∧ M ≤ 25 ∧ 2 * Gr.und d N + (t.length + 1) ≤ M
/-- What from hands back. -/
def FromPost (L : List Lk) (f : Int) (N n : Nat) (w : World) (e : Ending) (w' : World) : Prop :=
  ∃ d : Nat → Int, e = .returned (.agg (farArr d)) ∧ (∀ b, Gr.IsHops (Adj L f) n b (d b)) ∧ (∀ b, d b < N) ∧ Below w.heap.size w w'
theorem upd_zero (n : Nat) : farArr (Gr.upd (fun v => if v < 12 then -1 else 0) n 0) = farArr (Gr.upd (fun _ => -1) n 0) := by
  apply Array.ext_getElem?
  intro i
  by_cases hi : i < 12
  · rw [farArr_at _ hi, farArr_at _ hi]; simp [Gr.upd, hi]
  · rw [Array.getElem?_eq_none (by rw [farArr_size]; omega), Array.getElem?_eq_none (by rw [farArr_size]; omega)]

theorem own_tail {w : World} {B e c : Nat} {A : Option Addr} {n : Nat} {t : List Nat} (h : Own w B e 1 A (t.length + 1) c (nats (n :: t))) (hc : c ≠ 1) :
    Own w B e 1 (Option.map (fun x => { block := x.block, off := x.off + 1 }) A) t.length (c - 1) (nats t) := by
  have := h.cut (k := 1) (by omega)
  rw [if_neg hc] at this
  exact this
theorem own_tail1 {w : World} {B e : Nat} {A : Option Addr} {n : Nat} {t : List Nat} (h : Own w B e 1 A (t.length + 1) 1 (nats (n :: t))) :
    Own w B e 1 A t.length 0 (nats t) := by
  have := h.cut (k := 1) (by omega)
  rw [if_pos rfl] at this
  exact this

/-- A node that was not found yet is found: the distances, the queue and the world behind. -/
theorem in_hit {L : List Lk} {f : Int} {N n n' : Nat} {w wr w2 : World} {cs : Array Value} {B3 : Nat} {A3 A4 A2 : Option Addr} {c3 c2 c4 M k m i : Nat} {x : Lk} {t : List Nat} {d : Nat → Int}
    (hk : k < (arL L f n' L.length).length) (hown : Own wr (w.heap.size + 3) 3 1 A4 (t.length + 1) c4 (nats (n' :: t)))
    (hown3 : Own wr B3 3 1 A3 (arL L f n' L.length).length c3 (nats (arL L f n' L.length))) (hdis : ∀ g, blk A4 = some g → blk A3 ≠ some g) (hF : FromW w wr cs d) (hB : Gr.BInv (Adj L f) N n d (n' :: t)) (hq : ∀ x ∈ n' :: t, x < N) (hT : Gr.Top d N)
    (hS : Seen L f n' d k) (h25 : M ≤ 25) (hms : 2 * Gr.und d N + (t.length + 1) ≤ M)
    (hi : (arL L f n' L.length)[k]? = some i) (hx : L[i]? = some x) (hm : othV x.a x.b n' = m) (hd : d m < 0) (hmN : m < N) (hadj : Adj L f n' m)
    (hown2 : Own w2 (w.heap.size + 3) 3 1 A2 (t.length + 1 + 1) c2 (nats (n' :: t) ++ [.int .i64 m]))
    (hgrow : ((wr.setCell ⟨w.heap.size + 1 + 1, m, none⟩ (.int .i64 (d n' + 1))).alloc (.cells #[.int .i64 m] 3)).grownBy w2 (blk A4))
    (hblk : A2 = A4 ∨ blk A2 = some ((wr.setCell ⟨w.heap.size + 1 + 1, m, none⟩ (.int .i64 (d n' + 1))).alloc (.cells #[.int .i64 m] 3)).heap.size) (kk : Value) (hkk : kk = .int .i64 ((k : Int) + 1)) (v : Value) (hv : v = .slice A2 (t.length + 1 + 1) c2) :
    InRel L f N n n' w cs B3 A3 c3 M v kk w2 := by
  have hn' := hB.inq n' (by simp)
  have hF1 := hF.set m (d n' + 1)
  have hsz := hF.size
  have hb : Below (w.heap.size + 3) (wr.setCell ⟨w.heap.size + 1 + 1, m, none⟩ (.int .i64 (d n' + 1))) w2 :=
    ((Below.refl _ _).alloc (by simpa [World.setCell] using hsz) _).grown hgrow (by simp; omega) hown.from_
  have hu := Gr.und_upd (d := d) (m := m) (x := d n' + 1) (N := N) hd (by omega) hmN
  refine ⟨k + 1, t ++ [m], A2, c2, Gr.upd d m (d n' + 1), by rw [hkk]; simp, by omega, by rw [hv]; simp, ?_, ?_, ?_, hF1.call hb, hB.find hd hadj hmN, ?_, hT.find hn' hd hmN, ?_, h25, ?_⟩
  · rw [← nats_snoc] at hown2
    simpa using hown2
  · refine ((hown3.setCell_type (p := ⟨w.heap.size + 1 + 1, m, none⟩) hF.out (by decide) _).alloc _).kept hgrow ?_
    cases h4 : blk A4 with
    | none =>
      cases h3 : blk A3 with
      | none => exact .inl rfl
      | some g => exact .inr (by simp)
    | some g => exact .inr (hdis g h4)
  · intro g hg h3
    rcases hblk with h | h
    · rw [h] at hg; exact hdis g hg h3
    · have hc3 : 0 < c3 := by have := hown3.2.1; omega
      obtain ⟨g3, off, cur, rfl, hh, _⟩ := hown3.2.2.2.2.2 hc3
      have := lt_heap hh
      simp [blk] at h3
      rw [h] at hg
      simp at hg
      omega
  · intro y hy
    simp at hy
    rcases hy with rfl | hy | rfl
    · exact hq _ (by simp)
    · exact hq y (by simp [hy])
    · exact hmN
  · exact (hS.upd (by omega)).step hi hx hm (by simp [Gr.upd]; omega)
  · simp; omega

set_option maxRecDepth 100000 in
set_option maxHeartbeats 1000000 in
theorem from_any (L : List Lk) (f : Int) (n : Nat) (N : Nat) (hN : N ≤ 12) (hn : n < N) (hok : LksOk L N) (w : World) (a0 a1 a2 a3 a5 a6 : Value) (A : Option Addr) (c : Nat) (h : Rd w w.heap.size 3 A L.length (L.flatMap lkCells)) (hl : L.length ≤ 1000) :
    Calls Tryz.prog 50 #[.agg #[a0, a1, a2, a3, .slice A L.length c, a5, a6], .int .i64 f, .int .i64 n] w (FromPost L f N n w) := by
  obtain ⟨i0, hi, hz0, hz1, hz2⟩ := info_parts Tryz.info_int
  go_enter Tryz.func50, Tryz.ntmps50
  go_wp2_with fail
  go_loopw [8, 14] (fun _ i wr => ∃ k : Nat, k ≤ 12 ∧ i = .int .i64 k ∧ FromW w wr #[a0, a1, a2, a3, .slice A L.length c, a5, a6] (fun v => if v < k then -1 else 0))
    (fun _ i _ => 12 - (intOf i).toNat)
  case atStart => exact ⟨0, Nat.zero_le _, rfl, FromW.begin⟩
  case round =>
    obtain ⟨k, hk, rfl, hF⟩ := hrel
    by_cases hlt : k < 12
    · have hc := hF.at_ hlt
      have hf := hF.free k
      rw [if_neg (by omega)] at hc
      go_wp2
      go_roundw
      case rel =>
        refine ⟨k + 1, by omega, by go_num, ?_⟩
        have := hF.set k (-1)
        refine (show (Gr.upd (fun v => if v < k then -1 else 0) k (-1)) = (fun v => if v < k + 1 then -1 else 0) from ?_) ▸ this
        funext v
        unfold Gr.upd
        by_cases e : v = k
        · subst e; simp
        · have : (v < k + 1) ↔ v < k := by omega
          simp [e, this]
      case measure => simp [intOf]; omega
    · have hk' : 12 = k := by omega
      subst hk'
      have hn12 : n < 12 := by omega
      have hc := hF.at_ hn12
      have hf := hF.free n
      rw [if_pos hn12] at hc
      have hsz := hF.size
      go_wp2_with fail
      go_loopg [9] (2 * N + 1) (fun gk v wr => MainRel L f N n w #[a0, a1, a2, a3, .slice A L.length c, a5, a6] gk v wr)
      case atStart =>
        have hF1 := hF.set n 0
        have hF2 : FromW w (wr.setCell ⟨w.heap.size + 1 + 1, n, none⟩ (.int .i64 0)) #[a0, a1, a2, a3, .slice A L.length c, a5, a6] (Gr.upd (fun _ => -1) n 0) :=
          ⟨hF1.below, hF1.size, hF1.plan, hF1.res, by rw [← upd_zero n]; exact hF1.out⟩
        refine ⟨[n], some ⟨wr.heap.size, 0, none⟩, 1, Gr.upd (fun _ => -1) n 0, rfl, ?_, hF2.call ((Below.refl _ _).alloc (by simp; omega) _), Gr.BInv.begin hn, by simp [hn], Gr.Top.begin hn, by omega, ?_⟩
        · refine ⟨rfl, Nat.le_refl _, by simp [maxLen], by simp, by simp [blk]; omega, fun _ => ⟨wr.heap.size, 0, #[.int .i64 n], rfl, ?_, Nat.le_refl 1, fun j u hu => by simpa [nats] using hu⟩⟩
          have := heap_alloc_new (wr.setCell ⟨w.heap.size + 1 + 1, n, none⟩ (.int .i64 0)) (.cells #[.int .i64 n] 3)
          simpa using this
        · have := Gr.und_le (Gr.upd (fun _ => -1) n 0) N
          simp; omega
      case round =>
        obtain ⟨q, Aq, cq, d, rfl, hown, hF, hB, hq, hT, h25, hms⟩ := hrel
        have hsz := hF.size
        rcases q with _ | ⟨n', t⟩
        · have hfin : FromPost L f N n w (.returned (.agg (farArr d))) (wr.setRow (w.heap.size + 1) (farArr d)) :=
            ⟨d, rfl, hB.end_, fun b => by have := hT b; omega, hF.below.trans ⟨rfl, rfl, rfl, by simp, fun k hk => setRow_other _ _ _ _ (by omega)⟩⟩
          have HF := Lib.hid hfin
          clear hfin hms hown hB hq hT h
          go_wp2_with (first
            | (with_reducible refine wpList_load_row rfl 87 _ rfl (w.heap.size + 1 + 1) rfl 87 _ (0, 0) _ hF.out Tryz.underlying87 rfl ?hsize ?_)
            | (with_reducible refine wpList_store_row rfl 87 _ _ rfl (w.heap.size + 1) (farArr d) rfl rfl 87 _ hF.res ?hsize2 ?hs3 ?hs4 ?_))
          case hsize => rw [farArr_size]; exact Tryz.size_far
          case hsize2 => rw [farArr_size]; exact Tryz.size_far
          case hs3 => rw [farArr_size, farArr_size]
          case hs4 => exact farArr_one d
          exact bodyPost_ret (v := .agg (farArr d)) (results_cell_row rfl _ _ (w.heap.size + 1) 87 (farArr d) (0, 0) _ rfl (setRow_heap _ _ _ _ _ _ hF.res) Tryz.underlying87 rfl (by rw [farArr_size]; exact Tryz.size_far)) rfl HF.out
        · obtain ⟨b, o, rfl, hb, hc⟩ := hown.rd.one (nats_at (l := n' :: t) (i := 0) (x := n') rfl)
          have hp0 := hF.planAt 0
          have hp1 := hF.planAt 1
          have hp2 := hF.planAt 2
          have hp3 := hF.planAt 3
          have hp4 := hF.planAt 4
          have hp5 := hF.planAt 5
          have hp6 := hF.planAt 6
          simp at hp0 hp1 hp2 hp3 hp4 hp5 hp6 hc
          have hRd := h.below hF.below (Nat.le_refl _)
          have hRd' : Rd wr wr.heap.size 3 A L.length (L.flatMap lkCells) := hRd.more hF.below.size
          go_wp2_with fail
          refine (around_any L f n' _ a0 a1 a2 a3 a5 a6 A c hRd' hl).mono ?_
          rintro e w1 ⟨A3, c3, rfl, hown3, hb1⟩
          have hF1 := hF.call (hb1.mono hsz)
          have hown1 := hown.call hb1
          clear hp0 hp1 hp2 hp3 hp4 hp5 hp6 hc hRd hRd'
          go_wp2_with fail
          go_loopw [9, 37] (fun v i wx => InRel L f N n n' w #[a0, a1, a2, a3, .slice A L.length c, a5, a6] wr.heap.size A3 c3 gk v i wx)
            (fun _ i _ => (arL L f n' L.length).length - (intOf i).toNat)
          case atStart =>
            refine ⟨0, t, _, cq, d, rfl, Nat.zero_le _, rfl, hown1, hown3, ?_, hF1, hB, hq, hT, fun j i x hj => absurd hj (by omega), h25, hms⟩
            intro g hg h3
            have := hown3.from_ g h3
            simp [blk] at hg
            omega
          case round =>
            clear hown hF hB hq hT hms hF1 hown1 hown3 hb1
            obtain ⟨k, t, A4, c4, d, rfl, hk, rfl, hown, hown3, hdis, hF, hB, hq, hT, hS, h25, hms⟩ := hrel
            have hsz := hF.size
            have hkar := arL_le L f n' L.length
            by_cases hlt : k < (arL L f n' L.length).length
            · obtain ⟨i, hik⟩ : ∃ i, (arL L f n' L.length)[k]? = some i := ⟨_, List.getElem?_eq_getElem hlt⟩
              have har := mem_arL.1 (List.mem_of_getElem? hik)
              obtain ⟨x, hx⟩ : ∃ x, L[i]? = some x := ⟨_, List.getElem?_eq_getElem har.1⟩
              obtain ⟨m, hm, hmN, hadj⟩ := ar_oth hok hx har.2
              obtain ⟨b3, o3, rfl, hb3, hc3⟩ := hown3.rd.one (nats_at hik)
              obtain ⟨bl, ol, rfl, hbl, hc0, hc1, hc2⟩ := h.link hx
              rw [← hF.below.cell hbl] at hc0 hc1 hc2
              have hp4 := hF.planAt 4
              simp at hp4
              have hiL : i < L.length := har.1
              have HI := Lib.hid hik
              have HX := Lib.hid hx
              have HM := Lib.hid hm
              clear hik hx hm har
              go_wp2_with fail
              refine (other_any x.a x.b x.cost n' _).mono ?_
              rintro e w2 ⟨rfl, hb2⟩
              rw [HM.out]
              have hF2 := hF.call (hb2.mono hsz)
              have hownB := hown.call hb2
              have hownB3 := hown3.call hb2
              have hdm := hF2.at_ (show m < 12 by omega)
              have hn'N : n' < N := hq n' (by simp)
              have hdn := hF2.at_ (show n' < 12 by omega)
              have hfm := hF2.free m
              have hsz2 := hF2.size
              clear hp4 hc0 hc1 hc2 hc3
              by_cases hd : d m < 0
              · have hlen : (t.length + 1 + 1) * 8 ≤ 140737488355328 := by omega
                have hT1 := hT n'
                have hdn0 := hB.inq n' (by simp)
                go_wp2_with (first | (at_builtin; refine wpList_app _ rfl _ _ 22 rfl (w.heap.size + 3) 3 i0 (.int .i64 0) 1 8 Tryz.underlying22 hi hz0 hz1 hz2 rfl (by decide) _ _ _ (nats (n' :: t)) rfl (by exact ((show Own _ _ _ _ _ _ _ _ from hownB.setCell_type (p := ⟨w.heap.size + 1 + 1, m, none⟩) hF2.out (by decide) _).alloc _)) _ 1 _ [.int .i64 m] rfl (Rd.new (by simp) rfl) (by intro u hu; simp at hu; subst hu; rfl) (by unfold maxLen; omega) (by omega) (by simp; omega) ?_; intro A2 c2 w2 hown2 hgrow2 hblk2 _))
                go_roundw
                case rel => exact in_hit hlt hownB hownB3 hdis hF2 hB hq hT hS h25 hms HI.out HX.out HM.out hd hmN hadj hown2 hgrow2 hblk2 _ rfl _ rfl
                case measure => simp [intOf]; omega
              · go_wp2
                go_roundw
                case rel => exact ⟨k + 1, t, A4, c4, d, by go_num, by omega, rfl, hownB, hownB3, hdis, hF2, hB, hq, hT, hS.step HI.out HX.out HM.out (by omega), h25, hms⟩
                case measure => simp [intOf]; omega
            · have hkk : k = (arL L f n' L.length).length := by omega
              have hall := Seen.all hok (by rw [← hkk]; exact hS)
              have HB := Lib.hid (hB.pop hall)
              clear hkk hall
              by_cases hc4 : c4 = 1
              · subst hc4
                have HT := Lib.hid (own_tail1 hown)
                have HQ := Lib.hid (show ∀ x ∈ t, x < N from fun x hx => hq x (by simp [hx]))
                go_wp2
                go_roundg (gk - 1)
                case measure => omega
                case rel => exact ⟨t, A4, 0, d, rfl, HT.out, hF, HB.out, HQ.out, hT, by omega, by omega⟩
              · have HT := Lib.hid (own_tail hown hc4)
                have HQ := Lib.hid (show ∀ x ∈ t, x < N from fun x hx => hq x (by simp [hx]))
                go_wp2
                go_roundg (gk - 1)
                case measure => omega
                case rel => exact ⟨t, _, c4 - 1, d, rfl, HT.out, hF, HB.out, HQ.out, hT, by omega, by omega⟩
end Go.Proofs.YtablbagdnmbbfaaGreat

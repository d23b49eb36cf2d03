/- Tables of routes in memory; blocks by tags: what may be written and what may not. No program is walked here. -/
import Derived.Test.YtjdnkbpclhldfaaDoorAttrB
import Derived.Test.YtjdnkbpclhldfaaDoorPrintP
import Derived.Test.YtjdnkbpclhldfaaDoorMaps
import Derived.Test.YtjdnkbpclhldfaaDoorTableP
import Derived.Test.YtjdnkbpclhldfaaDoorRegs
namespace Go.Proofs.YtjdnkbpclhldfaaDoor
set_option linter.unusedSimpArgs false
set_option linter.unusedVariables false
open Go.RowKit

/-- Blocks of the tag t may have been written; all others that were there are as they were. -/
structure Chg (ow : Nat → Nat) (t : Nat) (w w' : World) : Prop where
  os : w'.os = w.os
  tape : w'.tape = w.tape
  output : w'.output = w.output
  size : w.heap.size ≤ w'.heap.size
  block : ∀ k, k < w.heap.size → ow k ≠ t → w'.heap[k]? = w.heap[k]?
section
variable {w w1 w2 w' : World} {ow ow' : Nat → Nat} {t u : Nat}
theorem Chg.refl (ow : Nat → Nat) (t : Nat) (w : World) : Chg ow t w w := ⟨rfl, rfl, rfl, Nat.le_refl _, fun _ _ _ => rfl⟩
theorem Chg.of_below (h : Below w.heap.size w w') : Chg ow t w w' := ⟨h.os, h.tape, h.output, h.size, fun k hk _ => h.block k hk⟩
theorem Chg.grown {row : Option Nat} (h : w.grownBy w' row) (hr : ∀ g, row = some g → ow g = t) : Chg ow t w w' :=
  ⟨h.os, h.tape, h.output, h.size, fun k hk hne => h.block k hk (fun e => hne (hr k e.symm))⟩
theorem Chg.setCell {q : Addr} (hq : ow q.block = t) (v : Value) : Chg ow t w (w.setCell q v) :=
  ⟨rfl, rfl, rfl, by simp [World.setCell], fun k _ hne => Below.heap_setCell _ _ _ _ (fun e => hne (by rw [e]; exact hq))⟩
theorem Chg.trans (h : Chg ow t w w1) (h' : Chg ow' t w1 w2) (he : ∀ k, k < w.heap.size → ow' k = ow k) : Chg ow t w w2 :=
  ⟨h'.os.trans h.os, h'.tape.trans h.tape, h'.output.trans h.output, Nat.le_trans h.size h'.size, fun k hk hne => (h'.block k (Nat.lt_of_lt_of_le hk h.size) (by rw [he k hk]; exact hne)).trans (h.block k hk hne)⟩
theorem Chg.then (h : Chg ow t w w1) (h' : Chg ow t w1 w2) : Chg ow t w w2 := h.trans h' (fun _ _ => rfl)
theorem Chg.below {B : Nat} (h : Chg ow t w w') (hB : ∀ k, k < B → ow k ≠ t) (hs : B ≤ w.heap.size) : Below B w w' :=
  ⟨h.os, h.tape, h.output, h.size, fun k hk => h.block k (Nat.lt_of_lt_of_le hk hs) (hB k hk)⟩
end
/-- The same tags of all that is there. -/
def Agr (w : World) (ow ow' : Nat → Nat) : Prop := ∀ k, k < w.heap.size → ow' k = ow k
theorem Agr.refl (w : World) (ow : Nat → Nat) : Agr w ow ow := fun _ _ => rfl
theorem Agr.trans {w w1 : World} {a b c : Nat → Nat} (h : Agr w a b) (h' : Agr w1 b c) (hs : w.heap.size ≤ w1.heap.size) : Agr w a c := fun k hk => (h' k (Nat.lt_of_lt_of_le hk hs)).trans (h k hk)
section
variable {w w' : World} {ow ow' : Nat → Nat} {t u : Nat} {B s n c : Nat} {e : TypeId} {A : Option Addr} {xs : List Value}
theorem Own.chg (h : Own w B e s A n c xs) (hc : Chg ow t w w') (ht : 0 < c → ∀ g, blk A = some g → ow g ≠ t) : Own w' B e s A n c xs := by
  obtain ⟨h1, h2, h3, h4, hb, h5⟩ := h
  refine ⟨h1, h2, h3, h4, hb, fun hcc => ?_⟩
  obtain ⟨g, off, cur, rfl, hh, r⟩ := h5 hcc
  exact ⟨g, off, cur, rfl, (hc.block g (lt_heap hh) (ht hcc g rfl)).trans hh, r⟩
theorem Own.ltb (h : Own w B e s A n c xs) (hc : 0 < c) : ∀ g, blk A = some g → g < w.heap.size := by
  obtain ⟨g, off, cur, rfl, hh, -⟩ := h.2.2.2.2.2 hc
  intro g' hg; simp [blk] at hg; subst hg; exact lt_heap hh
end
/-- A route's list, in memory of the tag 0, or none. -/
def PathAt (w : World) (ow : Nat → Nat) (z : RtZ) : Prop := OwnOr w 0 z.2.1 z.2.2 z.1.path ∧ (z.1.path ≠ [] → ∀ g, blk z.2.1 = some g → ow g = 0)
section
variable {w w' : World} {ow ow' : Nat → Nat} {t : Nat} {z : RtZ}
theorem PathAt.rt (h : PathAt w ow z) : RtR w w.heap.size z.1 z.2.1 z.2.2 := h.1.rt _ _
theorem PathAt.chg (h : PathAt w ow z) (hc : Chg ow t w w') (ht : t ≠ 0) : PathAt w' ow z := by
  refine ⟨?_, h.2⟩
  rcases h.1 with h1 | h1
  · by_cases hp : z.1.path = []
    · exact .inr ⟨hp, Nat.le_trans (Nat.le_refl _) h1.2.2.1⟩
    · exact .inl (h1.chg hc (fun _ g hg e => ht (by rw [← e]; exact h.2 hp g hg)))
  · exact .inr h1
theorem PathAt.call (h : PathAt w ow z) (hb : Below w.heap.size w w') : PathAt w' ow z := ⟨h.1.call hb, h.2⟩
theorem PathAt.retag (h : PathAt w ow z) (ha : Agr w ow ow') : PathAt w ow' z := by
  refine ⟨h.1, fun hp g hg => ?_⟩
  rcases h.1 with h1 | ⟨h1, -⟩
  · have hl : 0 < z.1.path.length := List.length_pos_iff.2 hp
    have := h1.2.1
    rw [ha g (h1.ltb (by omega) g hg)]; exact h.2 hp g hg
  · exact absurd h1 hp
/-- A route that has just been made. -/
theorem PathAt.fresh {w0 : World} (ho : OwnOr w w0.heap.size z.2.1 z.2.2 z.1.path) (h : ∀ k, w0.heap.size ≤ k → ow k = 0) : PathAt w ow z := by
  refine ⟨ho.more (Nat.zero_le _), fun hp g hg => ?_⟩
  rcases ho with h1 | ⟨h1, -⟩
  · exact h g (h1.from_ g hg)
  · exact absurd h1 hp
end
/-- Routes in a row of the tag t. -/
structure RowT (w : World) (ow : Nat → Nat) (t : Nat) (L : List RtZ) (A : Option Addr) (c : Nat) : Prop where
  row : Own w 0 25 3 A L.length c (L.flatMap rtCells)
  za : c = 0 → A = none
  each : ∀ z ∈ L, PathAt w ow z
  ta : ∀ g, blk A = some g → ow g = t
theorem Chg.agr {w w' : World} {ow ow' : Nat → Nat} {t : Nat} (h : Chg ow t w w') (ha : Agr w ow ow') : Chg ow' t w w' :=
  ⟨h.os, h.tape, h.output, h.size, fun k hk hne => h.block k hk (by rw [← ha k hk]; exact hne)⟩
section
variable {w w' w2 : World} {ow ow' : Nat → Nat} {t u : Nat} {L : List RtZ} {A : Option Addr} {c : Nat}
theorem RowT.begin (w : World) (ow : Nat → Nat) (t : Nat) : RowT w ow t [] none 0 := ⟨Own.nil _ _ _ _, fun _ => rfl, (by intro z hz; cases hz), (by intro g hg; simp [blk] at hg)⟩
theorem RowT.rts (a : RowT w ow t L A c) : RtsR w w.heap.size L A := ⟨a.row.rd, fun z hz => (a.each z hz).rt⟩
theorem RowT.chg (a : RowT w ow t L A c) (hc : Chg ow u w w') (h1 : u ≠ t) (h0 : u ≠ 0) : RowT w' ow t L A c :=
  ⟨a.row.chg hc (fun _ g hg e => h1 (by rw [← e]; exact a.ta g hg)), a.za, fun z hz => (a.each z hz).chg hc h0, a.ta⟩
theorem RowT.call (a : RowT w ow t L A c) (hb : Below w.heap.size w w') : RowT w' ow t L A c := ⟨a.row.call hb, a.za, fun z hz => (a.each z hz).call hb, a.ta⟩
theorem RowT.retag (a : RowT w ow t L A c) (ha : Agr w ow ow') : RowT w ow' t L A c := by
  refine ⟨a.row, a.za, fun z hz => (a.each z hz).retag ha, fun g hg => ?_⟩
  by_cases hc : c = 0
  · rw [a.za hc] at hg; simp [blk] at hg
  · rw [ha g (a.row.ltb (by omega) g hg)]; exact a.ta g hg
/-- One more; a block that is new is of the row's tag. -/
theorem RowT.app (a : RowT w ow t L A c) (h0 : t ≠ 0) {z : RtZ} (hz : PathAt w ow z) {A2 : Option Addr} {n c2 : Nat} (hn : n = L.length + 1) (hg : w.grownBy w2 (blk A)) (hown : Own w2 0 25 3 A2 n c2 (L.flatMap rtCells ++ rtCells z)) (hblk : A2 = A ∨ blk A2 = some w.heap.size) :
    ∃ ow', Agr w ow ow' ∧ RowT w2 ow' t (L ++ [z]) A2 c2 ∧ Chg ow t w w2 ∧ (∀ k, w.heap.size ≤ k → ow' k = t) := by
  subst hn
  have hc : Chg ow t w w2 := Chg.grown hg a.ta
  have hag : Agr w ow (fun k => if k < w.heap.size then ow k else t) := fun k hk => if_pos hk
  refine ⟨fun k => if k < w.heap.size then ow k else t, hag, ⟨?_, ?_, ?_, ?_⟩, hc, fun k hk => if_neg (by omega)⟩
  · have e : (L ++ [z]).flatMap rtCells = L.flatMap rtCells ++ rtCells z := by simp
    rw [e]; simpa using hown
  · intro e; have := hown.2.1; omega
  · intro y hy
    rcases List.mem_append.1 hy with hy | hy
    · exact (((a.each y hy).retag hag).chg (t := t) (Chg.grown hg (fun g hg' => by
        have h1 := a.ta g hg'
        show (if g < w.heap.size then ow g else t) = t
        split <;> first | exact h1 | rfl)) h0)
    · simp at hy; subst hy
      exact ((hz.retag hag).chg (t := t) (Chg.grown hg (fun g hg' => by
        have h1 := a.ta g hg'
        show (if g < w.heap.size then ow g else t) = t
        split <;> first | exact h1 | rfl)) h0)
  · intro g hg'
    rcases hblk with e | e
    · subst e
      have h1 := a.ta g hg'
      show (if g < w.heap.size then ow g else t) = t
      split <;> first | exact h1 | rfl
    · rw [e] at hg'
      injection hg' with hg'
      show (if g < w.heap.size then ow g else t) = t
      rw [if_neg (by omega)]
end

/-! ### A table -/
/-- A route's text. -/
def txt (r : Rt) : ByteArray := ⟨(printB r).toArray⟩
theorem txt_of {s : ByteArray} {r : Rt} (h : s.data.toList = printB r) : s = txt r := by
  obtain ⟨d⟩ := s
  unfold txt
  have h : d.toList = printB r := h
  rw [← h]
theorem txt_inj {a b : Rt} (ha : RtOk a) (hb : RtOk b) (h : txt a = txt b) : a = b :=
  print_inj ha hb (by have := congrArg (fun s => s.data.toList) h; simpa [txt] using this)
theorem dec_len2 : ∀ (u : Nat), (Lib.decDigits u).length ≤ u + 1 := by
  intro u
  induction u using Nat.strongRecOn with
  | _ u ih =>
    rw [Lib.decDigits]
    split
    · simp
    · have := ih (u / 10) (by omega)
      simp; omega
theorem tail_len {M : Nat} : ∀ (xs : List (List UInt8)), (∀ x ∈ xs, x.length ≤ M) → (Lib.joinTail [32] xs).length ≤ xs.length * (M + 1)
  | [], _ => by simp [Lib.joinTail]
  | y :: r, h => by
    have ih := tail_len r (fun x hx => h x (List.mem_cons_of_mem _ hx))
    have h1 := h y (by simp)
    rw [tail_cons]
    have e : (r.length + 1) * (M + 1) = r.length * (M + 1) + (M + 1) := by rw [Nat.add_mul, Nat.one_mul]
    simp only [List.length_cons, List.length_append]
    omega
theorem txt_size {r : Rt} (h : RtOk r) : (txt r).size ≤ maxLen := by
  have e : (txt r).size = (printB r).length := by simp [txt, ByteArray.size]
  rw [e]
  unfold maxLen
  rcases h.kind with k | k | k
  · simp [printB, k]
  · obtain ⟨c0, c1, -⟩ := h.k1 k
    have e1 : printB r = Lib.itoa r.cost := by simp [printB, k]
    rw [e1]; unfold Lib.itoa; rw [if_neg (by omega)]
    have := dec_len2 r.cost.toNat; omega
  · obtain ⟨-, hl, -, hn⟩ := h.k2 k
    have e1 : printB r = 91 :: (Lib.join (r.path.map Lib.itoa) [32] ++ [93]) := by simp [printB, k]
    rw [e1]
    have hw : ∀ x ∈ r.path.map Lib.itoa, x.length ≤ 65536 := by
      intro x hx
      obtain ⟨n, hm, rfl⟩ := List.mem_map.1 hx
      obtain ⟨n1, n2⟩ := hn n hm
      unfold Lib.itoa; rw [if_neg (by omega)]
      have := dec_len2 n.toNat; omega
    have hm : (r.path.map Lib.itoa).length ≤ 12 := by simpa using hl
    generalize r.path.map Lib.itoa = xs at *
    cases xs with
    | nil => rw [Lib.join_nil]; simp
    | cons y q =>
      rw [Lib.join_cons]
      have h1 := hw y (by simp)
      have h2 := tail_len q (fun x hx => hw x (List.mem_cons_of_mem _ hx))
      simp only [List.length_cons, List.length_append, List.length_nil] at hm ⊢
      have h3 : q.length * (65536 + 1) ≤ 11 * (65536 + 1) := Nat.mul_le_mul_right _ (by omega)
      omega
/-- What the map of numbers holds: each route's text, and its place. -/
def ents (L : List Rt) : List (Value × Value) := (List.range L.length).map fun i => (Value.string (txt (L.getD i rtNone)), Value.int .i64 (i : Int))
theorem ents_at {L : List Rt} {i : Nat} {r : Rt} (h : L[i]? = some r) : (ents L)[i]? = some (.string (txt r), .int .i64 (i : Int)) := by
  have hl := (List.getElem?_eq_some_iff.1 h).1
  unfold ents
  rw [List.getElem?_map, List.getElem?_range hl]
  simp [h]
theorem ents_len (L : List Rt) : (ents L).length = L.length := by simp [ents]
theorem ents_snoc (L : List Rt) (r : Rt) : ents (L ++ [r]) = ents L ++ [(.string (txt r), .int .i64 (L.length : Int))] := by
  apply List.ext_getElem?
  intro i
  by_cases hi : i < L.length
  · rw [List.getElem?_append_left (by rw [ents_len]; exact hi)]
    have h1 : (L ++ [r])[i]? = some L[i] := by rw [List.getElem?_append_left hi, List.getElem?_eq_getElem hi]
    rw [ents_at h1, ents_at (List.getElem?_eq_getElem hi)]
  · by_cases e : i = L.length
    · subst e
      rw [ents_at (r := r) (by simp), List.getElem?_append_right (by rw [ents_len]; exact Nat.le_refl _), ents_len]; simp
    · rw [List.getElem?_eq_none (by rw [ents_len]; simp; omega), List.getElem?_eq_none (by rw [List.length_append, ents_len]; simp; omega)]
theorem look_ents {L : List Rt} (hok : ∀ x ∈ L, RtOk x) (hn : L.Nodup) {r : Rt} (hr : RtOk r) {z v : Value} {ok : Bool} (h : Look (ents L) (.string (txt r)) z v ok) :
    (ok = true ∧ r ∈ L ∧ v = .int .i64 ((L.idxOf r : Nat) : Int)) ∨ (ok = false ∧ r ∉ L) := by
  cases h with
  | there j v h =>
    left
    have hj : j < L.length := by have := (List.getElem?_eq_some_iff.1 h).1; rwa [ents_len] at this
    have hx : L[j]? = some L[j] := List.getElem?_eq_getElem hj
    rw [ents_at hx] at h
    injection h with h
    injection h with h1 h2
    injection h1 with h1
    have hm : L[j] ∈ L := List.getElem_mem hj
    have e := txt_inj (hok _ hm) hr h1
    rw [e] at hx hm
    refine ⟨rfl, hm, ?_⟩
    have hi := idx_at hm
    have : L.idxOf r = j := (List.getElem?_inj (idx_lt hm) hn).1 (hi.trans hx.symm)
    rw [this]; exact h2.symm
  | none h =>
    right
    refine ⟨rfl, fun hm => ?_⟩
    exact h _ (List.mem_of_getElem? (ents_at (idx_at hm))) rfl
theorem put_ents {L : List Rt} (hok : ∀ x ∈ L, RtOk x) {r : Rt} (hr : RtOk r) (hnew : r ∉ L) {m' : List (Value × Value)} (h : Put (ents L) (.string (txt r)) (.int .i64 (L.length : Int)) m') : m' = ents (L ++ [r]) := by
  rw [ents_snoc]
  cases h with
  | there j v h =>
    exfalso
    have hj : j < L.length := by have := (List.getElem?_eq_some_iff.1 h).1; rwa [ents_len] at this
    have hx : L[j]? = some L[j] := List.getElem?_eq_getElem hj
    rw [ents_at hx] at h
    injection h with h
    injection h with h1 h2
    injection h1 with h1
    have hm : L[j] ∈ L := List.getElem_mem hj
    exact hnew (by rw [← txt_inj (hok _ hm) hr h1]; exact hm)
  | new h => rfl
/-- A route that reads, its list in no block of the tag t. -/
def RtT (w : World) (ow : Nat → Nat) (t : Nat) (r : Rt) (A : Option Addr) (c : Nat) : Prop := RtR w w.heap.size r A c ∧ (r.path ≠ [] → ∀ g, blk A = some g → ow g ≠ t)
theorem RtT.chg {w w' : World} {ow : Nat → Nat} {t : Nat} {r : Rt} {A : Option Addr} {c : Nat} (h : RtT w ow t r A c) (hc : Chg ow t w w') : RtT w' ow t r A c := by
  refine ⟨⟨?_, h.1.2⟩, h.2⟩
  have h1 := h.1.1
  by_cases hp : r.path = []
  · have : r.path.length = 0 := by rw [hp]; rfl
    rw [this] at h1 ⊢
    refine ⟨h1.1, fun h => absurd h (Nat.lt_irrefl 0)⟩
  · refine ⟨h1.1, fun hn => ?_⟩
    obtain ⟨b, o, e, hb, hx⟩ := h1.2 hn
    refine ⟨b, o, e, Nat.lt_of_lt_of_le hb hc.size, fun j u hu => ?_⟩
    rw [World.cell?_of_block (hc.block b hb (h.2 hp b (by rw [e]; rfl)))]
    exact hx j u hu
theorem RtT.call {w w' : World} {ow : Nat → Nat} {t : Nat} {r : Rt} {A : Option Addr} {c : Nat} (h : RtT w ow t r A c) (hb : Below w.heap.size w w') : RtT w' ow t r A c := h.chg (Chg.of_below hb)
theorem PathAt.rtT {w : World} {ow : Nat → Nat} {z : RtZ} (h : PathAt w ow z) {t : Nat} (ht : t ≠ 0) : RtT w ow t z.1 z.2.1 z.2.2 := ⟨h.rt, fun hp g hg e => ht (by rw [← e]; exact h.2 hp g hg)⟩
/-- A table of the tag t: its box, its routes, its map. -/
structure TabT (w : World) (ow : Nat → Nat) (t bt bm : Nat) (most : Int) (L : List RtZ) (A : Option Addr) (c : Nat) : Prop where
  box : w.heap[bt]? = some (.cells #[.int .i64 most, .slice A L.length c, .map (some bm)] 49 (0, 0))
  rows : RowT w ow t L A c
  map : MapAt w Tryd.prog bm 9 (ents (L.map (·.1)))
  ok : ∀ z ∈ L, RtOk z.1
  nodup : (L.map (·.1)).Nodup
  tb : ow bt = t
  tm : ow bm = t
section
variable {w w' : World} {ow ow' : Nat → Nat} {t u bt bm : Nat} {most : Int} {L : List RtZ} {A : Option Addr} {c : Nat}
theorem TabT.chg (a : TabT w ow t bt bm most L A c) (hc : Chg ow u w w') (h1 : u ≠ t) (h0 : u ≠ 0) : TabT w' ow t bt bm most L A c :=
  ⟨(hc.block bt (lt_heap a.box) (by rw [a.tb]; exact Ne.symm h1)).trans a.box, a.rows.chg hc h1 h0, a.map.keep (hc.block bm a.map.lt (by rw [a.tm]; exact Ne.symm h1)), a.ok, a.nodup, a.tb, a.tm⟩
theorem TabT.call (a : TabT w ow t bt bm most L A c) (hb : Below w.heap.size w w') : TabT w' ow t bt bm most L A c :=
  ⟨(hb.block bt (lt_heap a.box)).trans a.box, a.rows.call hb, a.map.call hb, a.ok, a.nodup, a.tb, a.tm⟩
theorem TabT.retag (a : TabT w ow t bt bm most L A c) (ha : Agr w ow ow') : TabT w ow' t bt bm most L A c :=
  ⟨a.box, a.rows.retag ha, a.map, a.ok, a.nodup, by rw [ha bt (lt_heap a.box)]; exact a.tb, by rw [ha bm a.map.lt]; exact a.tm⟩
theorem TabT.all (a : TabT w ow t bt bm most L A c) : w.cell? ⟨bt, 0, none⟩ = some (.int .i64 most) ∧ w.cell? ⟨bt, 1, none⟩ = some (.slice A L.length c) ∧ w.cell? ⟨bt, 2, none⟩ = some (.map (some bm)) :=
  ⟨cell_of_row w _ 0 _ _ _ a.box, cell_of_row w _ 1 _ _ _ a.box, cell_of_row w _ 2 _ _ _ a.box⟩
theorem TabT.free (a : TabT w ow t bt bm most L A c) (i : Nat) : w.frozen? ⟨bt, i, none⟩ = false := frozen_of_row w _ i _ _ a.box
theorem TabT.oks (a : TabT w ow t bt bm most L A c) : ∀ x ∈ L.map (·.1), RtOk x := by
  intro x hx; obtain ⟨z, hz, rfl⟩ := List.mem_map.1 hx; exact a.ok z hz
theorem TabT.bm_bt (a : TabT w ow t bt bm most L A c) : bm ≠ bt := by
  obtain ⟨es, cl, h, -⟩ := a.map
  intro e; rw [e, a.box] at h; cases h
theorem TabT.bt_A (a : TabT w ow t bt bm most L A c) : some bt ≠ blk A := by
  intro e
  by_cases hc : c = 0
  · rw [a.rows.za hc] at e; simp [blk] at e
  · obtain ⟨g, off, cur, e2, hh, -⟩ := a.rows.row.2.2.2.2.2 (by omega)
    rw [e2] at e; simp [blk] at e; subst e
    rw [a.box] at hh
    injection hh with hh
    injection hh with _ h2
    exact absurd h2 (by decide)
theorem TabT.bm_A (a : TabT w ow t bt bm most L A c) : some bm ≠ blk A := by
  intro e
  by_cases hc : c = 0
  · rw [a.rows.za hc] at e; simp [blk] at e
  · obtain ⟨g, off, cur, e2, hh, -⟩ := a.rows.row.2.2.2.2.2 (by omega)
    rw [e2] at e; simp [blk] at e; subst e
    obtain ⟨es, cl, h, -⟩ := a.map
    rw [h] at hh; cases hh
/-- One route more: what put does, step by step. -/
theorem TabT.put {w1 w2 w4 w5 : World} (a : TabT w ow t bt bm most L A c) (ht : t ≠ 0) (h1 : Below w.heap.size w w1) {z : RtZ} (hz : OwnOr w1 w.heap.size z.2.1 z.2.2 z.1.path) (hok : RtOk z.1) (hnew : z.1 ∉ L.map (·.1))
    {A2 : Option Addr} {n c2 : Nat} (hn : n = L.length + 1) (hg : w1.grownBy w2 (blk A)) (hown : Own w2 0 25 3 A2 n c2 (L.flatMap rtCells ++ rtCells z)) (hblk : A2 = A ∨ blk A2 = some w1.heap.size)
    (h4 : Below (w2.setCell ⟨bt, 1, none⟩ (.slice A2 n c2)).heap.size (w2.setCell ⟨bt, 1, none⟩ (.slice A2 n c2)) w4) {m' : List (Value × Value)}
    (hm : MapAt w5 Tryd.prog bm 9 m') (hput : Put (ents (L.map (·.1))) (.string (txt z.1)) (.int .i64 (L.length : Int)) m') (hg5 : w4.grownBy w5 (some bm)) :
    ∃ ow', Agr w ow ow' ∧ TabT w5 ow' t bt bm most (L ++ [z]) A2 c2 ∧ Chg ow t w w5 := by
  subst hn
  have a1 := a.call h1
  have hs2 := hg.size
  have hlt := lt_heap a.box
  have hlt1 := lt_heap a1.box
  have hc : Chg ow t w w5 := ((((Chg.of_below h1).then (Chg.grown hg a.rows.ta)).then (Chg.setCell (q := ⟨bt, 1, none⟩) a.tb _)).then (Chg.of_below h4)).then (Chg.grown hg5 (by intro g hg; injection hg with hg; rw [← hg]; exact a.tm))
  have hag : Agr w ow (fun k => if k < w.heap.size then ow k else if blk A2 = some k then t else 0) := fun k hk => if_pos hk
  have hbox2 : w2.heap[bt]? = some (.cells #[.int .i64 most, .slice A L.length c, .map (some bm)] 49 (0, 0)) := (hg.block bt hlt1 a1.bt_A).trans a1.box
  have hbox3 := heap_setCell_same w2 bt 1 _ _ (.slice A2 (L.length + 1) c2) hbox2
  have hbox4 := (h4.block bt (lt_heap hbox3)).trans hbox3
  have hown3 := hown.setCell_type (p := ⟨bt, 1, none⟩) hbox2 (by decide) (.slice A2 (L.length + 1) c2)
  have hown4 := hown3.call h4
  have hmap4 : MapAt w4 Tryd.prog bm 9 (ents (L.map (·.1))) := (((a1.map.grown hg a1.bm_A).setCell (p := ⟨bt, 1, none⟩) a.bm_bt _).call h4)
  have hne4 : blk A2 ≠ some bm := by
    intro e
    obtain ⟨g, off, cur, e2, hh, -⟩ := hown4.2.2.2.2.2 (by have := hown4.2.1; omega)
    rw [e2] at e; simp [blk] at e; subst e
    obtain ⟨es, cl, h, -⟩ := hmap4
    rw [h] at hh; cases hh
  refine ⟨_, hag, ⟨?_, ⟨?_, ?_, ?_, ?_⟩, ?_, ?_, ?_, ?_, ?_⟩, hc⟩
  · rw [hg5.block bt (lt_heap hbox4) (fun e => a.bm_bt (by injection e with e; exact e.symm)), hbox4]; simp
  · have e : (L ++ [z]).flatMap rtCells = L.flatMap rtCells ++ rtCells z := by simp
    rw [e]
    have := hown4.kept hg5 (.inr hne4)
    simpa using this
  · intro e; have := hown.2.1; omega
  · intro y hy
    rcases List.mem_append.1 hy with hy | hy
    · exact ((a.rows.each y hy).retag hag).chg (hc.agr hag) ht
    · simp at hy; subst hy
      by_cases hp : y.1.path = []
      · refine ⟨.inr ⟨hp, ?_⟩, fun h => absurd hp h⟩
        rcases hz with h | h
        · exact h.2.2.1
        · exact h.2
      · have hz1 : Own w1 w.heap.size 3 1 y.2.1 y.1.path.length y.2.2 (ints y.1.path) := by
          rcases hz with h | h
          · exact h
          · exact absurd h.1 hp
        have hcy : 0 < y.2.2 := by have := List.length_pos_iff.2 hp; have := hz1.2.1; omega
        have hz2 := hz1.keptN hg (own_two hz1 (a1.rows.row) (by decide) a.rows.za)
        have hz3 := hz2.setCell_type (p := ⟨bt, 1, none⟩) hbox2 (by decide) (.slice A2 (L.length + 1) c2)
        have hz4 := hz3.call h4
        have hz5 : Own w5 w.heap.size 3 1 y.2.1 y.1.path.length y.2.2 (ints y.1.path) := by
          refine hz4.kept hg5 (.inr (fun e => ?_))
          obtain ⟨g, off, cur, e2, hh, -⟩ := hz4.2.2.2.2.2 hcy
          rw [e2] at e; simp [blk] at e; subst e
          obtain ⟨es, cl, h, -⟩ := hmap4
          rw [h] at hh; cases hh
        refine ⟨.inl (hz5.more (Nat.zero_le _)), fun _ g hg' => ?_⟩
        have hgw := hz1.from_ g hg'
        have hg1 := hz1.ltb hcy g hg'
        show (if g < w.heap.size then ow g else if blk A2 = some g then t else 0) = 0
        rw [if_neg (by omega), if_neg]
        intro e
        rcases hblk with e' | e'
        · rw [e'] at e
          by_cases hcc : c = 0
          · rw [a.rows.za hcc] at e; simp [blk] at e
          · have := a.rows.row.ltb (by omega) g e; omega
        · rw [e'] at e; injection e with e; omega
  · intro g hg'
    show (if g < w.heap.size then ow g else if blk A2 = some g then t else 0) = t
    by_cases hgw : g < w.heap.size
    · rw [if_pos hgw]
      rcases hblk with e' | e'
      · exact a.rows.ta g (by rw [← e']; exact hg')
      · rw [e'] at hg'; injection hg' with hg'; have := h1.size; omega
    · rw [if_neg hgw, if_pos hg']
  · have hm' := put_ents a.oks hok hnew (m' := m') (by simpa using hput)
    rw [hm'] at hm
    simpa using hm
  · intro y hy
    rcases List.mem_append.1 hy with hy | hy
    · exact a.ok y hy
    · simp at hy; subst hy; exact hok
  · rw [List.map_append, List.nodup_append]
    refine ⟨a.nodup, by simp, fun x hx y hy e => ?_⟩
    simp at hy
    exact hnew (by rw [← hy, ← e]; exact hx)
  · exact (hag bt hlt).trans a.tb
  · exact (hag bm a.map.lt).trans a.tm
theorem PathAt.retag2 {z : RtZ} (h : PathAt w ow z) (h0 : ∀ k, ow k = 0 → ow' k = 0) : PathAt w ow' z := ⟨h.1, fun hp g hg => h0 g (h.2 hp g hg)⟩
theorem RowT.retag2 (a : RowT w ow t L A c) (h0 : ∀ k, ow k = 0 → ow' k = 0) (h1 : ∀ k, ow k = t → ow' k = t) : RowT w ow' t L A c := ⟨a.row, a.za, fun z hz => (a.each z hz).retag2 h0, fun g hg => h1 g (a.ta g hg)⟩
theorem TabT.retag2 (a : TabT w ow t bt bm most L A c) (h0 : ∀ k, ow k = 0 → ow' k = 0) (h1 : ∀ k, ow k = t → ow' k = t) : TabT w ow' t bt bm most L A c := ⟨a.box, a.rows.retag2 h0 h1, a.map, a.ok, a.nodup, h1 bt a.tb, h1 bm a.tm⟩
end
end Go.Proofs.YtjdnkbpclhldfaaDoor

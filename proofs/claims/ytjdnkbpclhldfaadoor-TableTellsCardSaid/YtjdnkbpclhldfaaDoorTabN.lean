/- A table, or nil: both answer as the list in them. -/
import Derived.Test.YtjdnkbpclhldfaaDoorRef8
import Derived.Test.YtjdnkbpclhldfaaDoorLawTOrder
namespace Go.Proofs.YtjdnkbpclhldfaaDoor
set_option linter.unusedSimpArgs false
set_option linter.unusedVariables false
open Go.RowKit

/-- A table of the tag t behind p; nil: no room and no routes. -/
def TabN (w : World) (ow : Nat → Nat) (t : Nat) (p : Option Addr) (most : Int) (L : List RtZ) (A : Option Addr) (c : Nat) : Prop :=
  (p = none ∧ most = 0 ∧ L = []) ∨ ∃ bt bm, p = some ⟨bt, 0, none⟩ ∧ TabT w ow t bt bm most L A c
section
variable {w w' : World} {ow ow' : Nat → Nat} {t u : Nat} {p : Option Addr} {most : Int} {L : List RtZ} {A : Option Addr} {c : Nat}
theorem TabN.call (a : TabN w ow t p most L A c) (hb : Below w.heap.size w w') : TabN w' ow t p most L A c := by
  rcases a with h | ⟨bt, bm, h1, h2⟩
  · exact .inl h
  · exact .inr ⟨bt, bm, h1, h2.call hb⟩
theorem TabN.retag (a : TabN w ow t p most L A c) (ha : Agr w ow ow') : TabN w ow' t p most L A c := by
  rcases a with h | ⟨bt, bm, h1, h2⟩
  · exact .inl h
  · exact .inr ⟨bt, bm, h1, h2.retag ha⟩
theorem TabN.step (a : TabN w ow t p most L A c) (ha : Agr w ow ow') (hc : Chg ow u w w') (h1 : u ≠ t) (h0 : u ≠ 0) : TabN w' ow' t p most L A c := by
  rcases a with h | ⟨bt, bm, h1', h2⟩
  · exact .inl h
  · exact .inr ⟨bt, bm, h1', h2.step ha hc h1 h0⟩
theorem TabN.nil0 (a : TabN w ow t p most L A c) (h : p = none ∨ most ≠ 0) : most = 0 → L = [] := by
  intro h0
  rcases a with h' | ⟨bt, bm, h1, h2⟩
  · exact h'.2.2
  · rcases h with h | h
    · rw [h] at h1; cases h1
    · exact absurd h0 h
theorem TabN.ok (a : TabN w ow t p most L A c) : ∀ x ∈ L.map (·.1), RtOk x := by
  rcases a with ⟨-, -, rfl⟩ | ⟨bt, bm, h1, h2⟩
  · intro x hx; cases hx
  · exact h2.oks
theorem getT_nil (i : Int) : getT [] i = rtNone := by unfold getT; split <;> simp
theorem findG_nil (r : Rt) : findG [] r = -1 := by unfold findG findT; split <;> simp
theorem addGL_nil (r : Rt) : addGL 0 [] r = [] := by unfold addGL addL; split <;> simp
theorem addGL_len (most : Int) (L : List Rt) (r : Rt) : (addGL most L r).length ≤ L.length + 1 := by
  unfold addGL addL
  split
  · split
    · omega
    · split
      · omega
      · simp
  · omega
theorem find_eq {L : List Rt} (h : ∀ x ∈ L, RtOk x) (r : Rt) : findG L r = findT L r := by
  unfold findG
  by_cases hr : rtRightB r = true
  · rw [if_pos hr]
  · rw [if_neg hr]
    unfold findT
    rw [if_neg (fun hm => hr (h r hm).right)]
theorem sizeN_any (a : TabN w ow t p most L A c) : Calls Tryd.prog 15 #[.pointer p] w fun e w' => e = .returned (.int .i64 (L.length : Int)) ∧ Below w.heap.size w w' := by
  rcases a with ⟨rfl, -, rfl⟩ | ⟨bt, bm, rfl, h2⟩
  · exact size8_nil w
  · exact size8_any h2
theorem findN_any (r : Rt) (Ar : Option Addr) (cr : Nat) (a : TabN w ow t p most L A c) (hr : RtR w w.heap.size r Ar cr) (hT : Tab w) :
    Calls Tryd.prog 16 #[.pointer p, rtV r Ar cr] w fun e w' => e = .returned (.int .i64 (findG (L.map (·.1)) r)) ∧ Below w.heap.size w w' := by
  rcases a with ⟨rfl, -, rfl⟩ | ⟨bt, bm, rfl, h2⟩
  · rw [List.map_nil, findG_nil]; exact find8_nil r Ar cr w
  · exact find8_any r Ar cr h2 hr hT
theorem getN_any (i : Int) (a : TabN w ow t p most L A c) : Calls Tryd.prog 19 #[.pointer p, .int .i64 i] w (OrPost (getT (L.map (·.1)) i) w) := by
  rcases a with ⟨rfl, -, rfl⟩ | ⟨bt, bm, rfl, h2⟩
  · rw [List.map_nil, getT_nil]; exact get8_nil i w
  · exact get8_any i h2
/-- Behind Add. -/
def AddPostN (w : World) (ow : Nat → Nat) (t : Nat) (p : Option Addr) (most : Int) (L : List RtZ) (r : Rt) (e : Ending) (w' : World) : Prop :=
  ∃ (L' : List RtZ) (A' : Option Addr) (c' : Nat) (ow' : Nat → Nat), e = .returned (.tuple #[.int .i64 (addGN most (L.map (·.1)) r), .int .i64 (addGE most (L.map (·.1)) r)]) ∧ L'.map (·.1) = addGL most (L.map (·.1)) r ∧ Agr w ow ow' ∧ TabN w' ow' t p most L' A' c' ∧ Chg ow t w w'
theorem addN_any (r : Rt) (Ar : Option Addr) (cr : Nat) (a : TabN w ow t p most L A c) (ht : t ≠ 0) (hr : RtT w ow t r Ar cr) (hT : ∀ w', Chg ow t w w' → Tab w') (hL : L.length ≤ 1000) :
    Calls Tryd.prog 13 #[.pointer p, rtV r Ar cr] w (AddPostN w ow t p most L r) := by
  rcases a with ⟨rfl, rfl, rfl⟩ | ⟨bt, bm, rfl, h2⟩
  · exact (add8_nil r Ar cr w hr.1).mono fun e w' ⟨h1, h3⟩ => ⟨[], A, c, ow, h1, by rw [List.map_nil, addGL_nil], Agr.refl _ _, .inl ⟨rfl, rfl, rfl⟩, Chg.of_below h3⟩
  · exact (add8_any r Ar cr h2 ht hr hT hL).mono fun e w' ⟨L', A', c', ow', h1, h3, h4, h5, h6⟩ => ⟨L', A', c', ow', h1, h3, h4, .inr ⟨bt, bm, rfl, h5⟩, h6⟩
end
/-- A change of one tag leaves what was there at first. -/
theorem TS.step9 {w0 wr w' : World} {ow ow' : Nat → Nat} {t : Nat} (a : TS w0 wr ow) (ha : Agr wr ow ow') (hc : Chg ow t wr w') (h9 : t ≠ 9) : TS w0 w' ow' := (a.retag ha).chg (hc.agr ha) h9
/-- Is there such a table? -/
def gdN (n : Int) : Bool := decide (1 ≤ n ∧ n ≤ 1073741824)
def mostN (n : Int) : Int := if gdN n = true then n else 0
def firstN (n : Int) : List Rt := if gdN n = true then [rtNone] else []
theorem newN_any (n : Int) (w : World) (ow : Nat → Nat) (t : Nat) (ht : t ≠ 0) (hT : Tab w) : Calls Tryd.prog 10 #[.int .i64 n] w fun e w' => ∃ (p : Option Addr) (L : List RtZ) (A : Option Addr) (c : Nat) (ow' : Nat → Nat),
    e = .returned (.pointer p) ∧ ((gdN n = true ∧ ∃ bt, p = some ⟨bt, 0, none⟩) ∨ (gdN n = false ∧ p = none)) ∧ L.map (·.1) = firstN n ∧ Agr w ow ow' ∧ TabN w' ow' t p (mostN n) L A c ∧ Below w.heap.size w w' := by
  by_cases h : 1 ≤ n ∧ n ≤ 1073741824
  · have hg : gdN n = true := decide_eq_true h
    refine (new8_any n h.1 h.2 w ow t ht hT).mono ?_
    rintro e w' ⟨bt, bm, L, A, c, ow', h1, h2, h3, h4, h5⟩
    exact ⟨_, L, A, c, ow', h1, .inl ⟨hg, bt, rfl⟩, by rw [h2]; unfold firstN; rw [if_pos hg], h3, .inr ⟨bt, bm, rfl, by unfold mostN; rw [if_pos hg]; exact h4⟩, h5⟩
  · have hg : gdN n = false := decide_eq_false h
    refine (new8_no n (by omega) w).mono ?_
    rintro e w' ⟨h1, h2⟩
    exact ⟨none, [], none, 0, ow, h1, .inr ⟨hg, rfl⟩, by unfold firstN; rw [hg]; rfl, Agr.refl _ _, .inl ⟨rfl, by unfold mostN; rw [hg]; rfl, rfl⟩, h2⟩
theorem rnewN_any (n : Int) (w : World) : Calls Tryd.prog 11 #[.int .i64 n] w fun e w' => ∃ (M : List RtZ) (A : Option Addr) (c : Nat),
    e = .returned (.tuple #[.agg #[.int .i64 (mostN n), .slice A M.length c], .bool (gdN n)]) ∧ M.map (·.1) = firstN n ∧ (∀ z ∈ M, z = (rtNone, (none, 0))) ∧ (c = 0 → A = none) ∧ Own w' w.heap.size 25 3 A M.length c (M.flatMap rtCells) ∧ Below w.heap.size w w' := by
  by_cases h : 1 ≤ n ∧ n ≤ 1073741824
  · have hg : gdN n = true := decide_eq_true h
    refine (rnew8_any n h.1 h.2 w).mono ?_
    rintro e w' ⟨g, c, h1, h2, h3, h4, h5, h6⟩
    refine ⟨[((rtNone, (none, 0)) : RtZ)], _, c, by unfold mostN; rw [if_pos hg, hg]; exact h1, by unfold firstN; rw [if_pos hg]; rfl, by intro z hz; simpa using hz, fun e => by omega, h5, h6⟩
  · have hg : gdN n = false := decide_eq_false h
    refine (rnew8_no n (by omega) w).mono ?_
    rintro e w' ⟨h1, h2⟩
    exact ⟨[], none, 0, by unfold mostN; rw [hg]; exact h1, by unfold firstN; rw [hg]; rfl, (by intro z hz; cases hz), fun _ => rfl, Own.nil _ _ _ _, h2⟩
/-- The document's table, as it is laid into its box. -/
theorem RefT.new {w1 w2 : World} {ow : Nat → Nat} {t : Nat} {n : Int} {M : List RtZ} {A : Option Addr} {c : Nat} (ht : ∀ k, w1.heap.size ≤ k → ow k = t) (hM : ∀ z ∈ M, z = ((rtNone, (none, 0)) : RtZ)) (hz : c = 0 → A = none)
    (ho : Own w2 w1.heap.size 25 3 A M.length c (M.flatMap rtCells)) (hs : w1.heap.size ≤ w2.heap.size) : RefT (w2.alloc (.cells #[.int .i64 n, .slice A M.length c] 32)) ow t w2.heap.size n M A c :=
  ⟨heap_alloc_new _ _, ⟨(ho.alloc _).more (Nat.zero_le _), hz, fun z hz' => by rw [hM z hz']; exact ⟨.inr ⟨rfl, Nat.zero_le _⟩, fun h => absurd rfl h⟩, fun g hg => ht g (ho.from_ g hg)⟩,
    fun z hz' => by rw [hM z hz']; exact ok_none, ht _ hs⟩
/-- A route in a box of the tag 7; its list of the tags 0 or 9. -/
structure RX (w : World) (ow : Nat → Nat) (bo : Nat) (r : Rt) (A : Option Addr) (c : Nat) : Prop where
  box : w.heap[bo]? = some (.cells #[.int .i64 r.kind, .int .i64 r.cost, .slice A r.path.length c] 25 (0, 0))
  tag : ow bo = 7
  rt : RtR w w.heap.size r A c
  sep : r.path ≠ [] → ∀ g, blk A = some g → ow g = 0 ∨ ow g = 9
section
variable {w w' : World} {ow ow' : Nat → Nat} {t bo : Nat} {r : Rt} {A : Option Addr} {c : Nat}
theorem RX.rtT (a : RX w ow bo r A c) (h0 : t ≠ 0) (h9 : t ≠ 9) : RtT w ow t r A c := ⟨a.rt, fun hp g hg e => by
  rcases a.sep hp g hg with h | h
  · exact h0 (by rw [← e, h])
  · exact h9 (by rw [← e, h])⟩
theorem RX.call (a : RX w ow bo r A c) (hb : Below w.heap.size w w') : RX w' ow bo r A c := ⟨(hb.block bo (lt_heap a.box)).trans a.box, a.tag, (a.rt.below hb (Nat.le_refl _)).more hb.size, a.sep⟩
theorem RX.chg (a : RX w ow bo r A c) (hc : Chg ow t w w') (h7 : t ≠ 7) (h0 : t ≠ 0) (h9 : t ≠ 9) : RX w' ow bo r A c := ⟨(hc.block bo (lt_heap a.box) (by rw [a.tag]; exact Ne.symm h7)).trans a.box, a.tag, ((a.rtT h0 h9).chg hc).1, a.sep⟩
theorem RX.step (a : RX w ow bo r A c) (ha : Agr w ow ow') (hc : Chg ow t w w') (h7 : t ≠ 7) (h0 : t ≠ 0) (h9 : t ≠ 9) : RX w' ow' bo r A c := by
  have b := a.chg hc h7 h0 h9
  refine ⟨b.box, by rw [ha bo (lt_heap a.box)]; exact a.tag, b.rt, fun hp g hg => ?_⟩
  have hlt : g < w.heap.size := by
    obtain ⟨b', o, e, hb', -⟩ := a.rt.1.2 (by have := List.length_pos_iff.2 hp; omega)
    rw [e] at hg; simp [blk] at hg; omega
  rw [ha g hlt]; exact a.sep hp g hg
theorem RX.at_ (a : RX w ow bo r A c) : w.cell? ⟨bo, 0, none⟩ = some (.int .i64 r.kind) ∧ w.cell? ⟨bo, 1, none⟩ = some (.int .i64 r.cost) ∧ w.cell? ⟨bo, 2, none⟩ = some (.slice A r.path.length c) := results_best a.box
theorem RX.new {w0 : World} {ow1 ow2 : Nat → Nat} (ho : OwnOr w w0.heap.size A c r.path) (h1 : ∀ k, w0.heap.size ≤ k → ow1 k = 0) (hx1 : Agr w ow1 ow2) (hx2 : ∀ k, w.heap.size ≤ k → ow2 k = 7) :
    RX (w.alloc (.cells #[.int .i64 r.kind, .int .i64 r.cost, .slice A r.path.length c] 25)) ow2 w.heap.size r A c := by
  refine ⟨heap_alloc_new _ _, hx2 _ (Nat.le_refl _), (ho.rt r.kind r.cost).call ((Below.refl _ _).alloc (Nat.le_refl _) _), fun hp g hg => .inl ?_⟩
  rcases ho with h | ⟨h, -⟩
  · have hl : 0 < r.path.length := List.length_pos_iff.2 hp
    have := h.2.1
    rw [hx1 g (h.ltb (by omega) g hg)]
    exact h1 g (h.from_ g hg)
  · exact absurd h hp
theorem RX.store (a : RX w ow bo r A c) {x : Rt} {A' : Option Addr} {c' : Nat} (hx : RtR w w.heap.size x A' c') (sep : x.path ≠ [] → ∀ g, blk A' = some g → ow g = 0 ∨ ow g = 9) :
    RX (((w.setCell ⟨bo, 0, none⟩ (.int .i64 x.kind)).setCell ⟨bo, 1, none⟩ (.int .i64 x.cost)).setCell ⟨bo, 2, none⟩ (.slice A' x.path.length c')) ow bo x A' c' ∧ Chg ow 7 w (((w.setCell ⟨bo, 0, none⟩ (.int .i64 x.kind)).setCell ⟨bo, 1, none⟩ (.int .i64 x.cost)).setCell ⟨bo, 2, none⟩ (.slice A' x.path.length c')) := by
  have h1 := heap_setCell_same w bo 0 _ _ (.int .i64 x.kind) a.box
  have h2 := heap_setCell_same _ bo 1 _ _ (.int .i64 x.cost) h1
  have h3 := heap_setCell_same _ bo 2 _ _ (.slice A' x.path.length c') h2
  have hc : Chg ow 7 w (((w.setCell ⟨bo, 0, none⟩ (.int .i64 x.kind)).setCell ⟨bo, 1, none⟩ (.int .i64 x.cost)).setCell ⟨bo, 2, none⟩ (.slice A' x.path.length c')) :=
    ((Chg.setCell (q := ⟨bo, 0, none⟩) a.tag _).then (Chg.setCell (q := ⟨bo, 1, none⟩) a.tag _)).then (Chg.setCell (q := ⟨bo, 2, none⟩) a.tag _)
  have hT : RtT w ow 7 x A' c' := ⟨hx, fun hp g hg e => by
    rcases sep hp g hg with h | h
    · rw [h] at e; cases e
    · rw [h] at e; cases e⟩
  exact ⟨⟨h3, a.tag, (hT.chg hc).1, sep⟩, hc⟩
end
end Go.Proofs.YtjdnkbpclhldfaaDoor

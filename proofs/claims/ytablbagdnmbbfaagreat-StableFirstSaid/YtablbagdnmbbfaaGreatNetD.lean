/- What the walk of Net keeps in its loops. No program is walked here, but next. -/
import Derived.Test.YtablbagdnmbbfaaGreatNetA
namespace Go.Proofs.YtablbagdnmbbfaaGreat
set_option linter.unusedSimpArgs false
set_option linter.unusedVariables false
open Go.RowKit

theorem Tryz.info_nd : (Tryz.prog.info? 50).map (fun i => (i.zero, i.size, i.bytes)) = some (some (.agg #[.string ⟨#[]⟩, .int .i64 0]), 2, 24) := by kernel_rfl
theorem Tryz.info_lk : (Tryz.prog.info? 60).map (fun i => (i.zero, i.size, i.bytes)) = some (some (.agg #[.int .i64 0, .int .i64 0, .int .i64 0]), 3, 24) := by kernel_rfl
theorem Tryz.info_ds : (Tryz.prog.info? 55).map (fun i => (i.zero, i.size, i.bytes)) = some (some (.agg #[.string ⟨#[]⟩, .slice none 0 0]), 2, 40) := by kernel_rfl
theorem Tryz.info_ck : (Tryz.prog.info? 73).map (fun i => (i.zero, i.size, i.bytes)) = some (some (.agg #[.int .i64 0, .int .i64 0, .int .i64 0, .int .i64 0, .int .i64 0]), 5, 40) := by kernel_rfl

def letters : List ByteArray := [⟨#[97]⟩, ⟨#[98]⟩, ⟨#[99]⟩, ⟨#[100]⟩, ⟨#[101]⟩, ⟨#[102]⟩, ⟨#[103]⟩]
def head0 (p : Net) : Prop := p.k = 0 ∧ ((p.proto = 1 ∧ p.cap = 0) ∨ (p.proto = 2 ∧ 1 ≤ p.cap ∧ p.cap ≤ 6))
def NodesOk (p : Net) (k : Nat) : Prop := p.nodes.length = k ∧ p.nodes.map (·.name) = letters.take k ∧ ∀ x ∈ p.nodes, 1 ≤ x.as_ ∧ x.as_ ≤ 16

theorem NodesOk.add {p : Net} {k : Nat} {nm : ByteArray} {x : Int} (h : NodesOk p k) (hn : letters[k]? = some nm) (h1 : 1 ≤ x) (h2 : x ≤ 16) : NodesOk { p with nodes := p.nodes ++ [⟨nm, x⟩] } (k + 1) := by
  obtain ⟨a, b, c⟩ := h
  refine ⟨by simp [a], ?_, ?_⟩
  · rw [List.map_append, b, List.take_add_one, hn]; rfl
  · intro y hy
    rcases List.mem_append.1 hy with hy | hy
    · exact c y hy
    · simp at hy; subst hy; exact ⟨h1, h2⟩
/-- The array of pairs that are used. -/
def boolArr (f : Nat → Bool) : Array Value := ((List.range 49).map fun i => Value.bool (f i)).toArray
theorem Tryz.size_used : (Tryz.prog.info? 71).map (·.size) = some 49 := by kernel_rfl
theorem boolArr_size (f : Nat → Bool) : (boolArr f).size = 49 := by simp [boolArr]
theorem boolArr_one (f : Nat → Bool) : (boolArr f).all (·.oneCell') = true := by simp [boolArr, Value.oneCell']
theorem boolArr_at (f : Nat → Bool) {i : Nat} (h : i < 49) : (boolArr f)[i]? = some (.bool (f i)) := by simp [boolArr, h]
theorem boolArr_set (f : Nat → Bool) {m : Nat} (x : Bool) : (boolArr f).setIfInBounds m (.bool x) = boolArr (fun v => if v = m then x else f v) := by
  apply Array.ext_getElem?
  intro i
  rw [Array.getElem?_setIfInBounds]
  by_cases hi : i < 49
  · rw [boolArr_at _ hi, boolArr_at _ hi]
    by_cases e : m = i
    · subst e; simp [boolArr, hi]
    · have e' : i ≠ m := fun h => e h.symm
      simp [e, e']
  · rw [Array.getElem?_eq_none (by rw [boolArr_size]; omega), Array.getElem?_eq_none (by rw [boolArr_size]; omega)]
    split <;> simp_all [boolArr]
/-- .. and the array lies in a block of its own. -/
structure UsedW (w wr : World) (p : Net) (h : Hd) (U : Nat) (f : Nat → Bool) : Prop where
  ns : NS w wr p h
  far : w.heap.size + 3 ≤ U
  used : wr.heap[U]? = some (.cells (boolArr f) 71 (0, 0))
theorem setRow_self {w : World} {g : Nat} {cs : Array Value} {e : TypeId} (h : w.heap[g]? = some (.cells cs e (0, 0))) : ∀ k : Nat, (w.setRow g cs).heap[k]? = w.heap[k]? := by
  intro k
  by_cases e : k = g
  · subst e; rw [setRow_heap _ _ _ _ _ _ h, h]
  · exact setRow_other _ _ _ _ e
theorem NS.setRow_self {w wr : World} {p : Net} {h : Hd} (a : NS w wr p h) {g : Nat} {cs : Array Value} {e : TypeId} (hh : wr.heap[g]? = some (.cells cs e (0, 0))) : NS w (wr.setRow g cs) p h := by
  have hg : wr.grownBy (wr.setRow g cs) none := ⟨rfl, rfl, rfl, by simp, fun i _ _ => YtablbagdnmbbfaaGreat.setRow_self hh i⟩
  exact a.next (hg.but _) (a.b.src.kept hg (by omega) (by have := a.b.size; omega) (by simp))
theorem NS.alloc0 {w wr : World} {p : Net} {h : Hd} (a : NS w wr p h) (o : Obj) : NS w (wr.alloc o) p h :=
  a.next (World.grownBy_alloc wr o _) (a.b.src.kept (World.grownBy_alloc wr o none) (by omega) (by have := a.b.size; omega) (by simp))
theorem UsedW.begin {w wr : World} {p : Net} {h : Hd} (a : NS w wr p h) : UsedW w ((wr.alloc (.cells (boolArr fun _ => false) 71)).setRow wr.heap.size (boolArr fun _ => false)) p h wr.heap.size (fun _ => false) := by
  have hh := heap_alloc_new wr (.cells (boolArr fun _ => false) 71)
  exact ⟨(a.alloc0 _).setRow_self hh, a.b.size, by rw [setRow_heap _ _ _ _ _ _ hh]⟩
theorem UsedW.next {w wr w' : World} {p : Net} {h : Hd} {U : Nat} {f : Nat → Bool} (a : UsedW w wr p h U f) (b : NS w w' p h) (hg : wr.grownBy w' (some (w.heap.size + 1))) : UsedW w w' p h U f :=
  ⟨b, a.far, by rw [hg.block U (lt_heap a.used) (by have := a.far; simp; omega)]; exact a.used⟩
theorem UsedW.drew {w wr : World} {p : Net} {h : Hd} {U : Nat} {f : Nat → Bool} (a : UsedW w wr p h U f) : UsedW w wr.drew p h U f :=
  ⟨a.ns.next ⟨rfl, rfl, rfl, Nat.le_refl _, fun _ _ _ => rfl⟩ a.ns.b.src, a.far, a.used⟩
theorem UsedW.alloc {w wr : World} {p : Net} {h : Hd} {U : Nat} {f : Nat → Bool} (a : UsedW w wr p h U f) (o : Obj) : UsedW w (wr.alloc o) p h U f :=
  ⟨a.ns.alloc0 o, a.far, (Below.heap_alloc _ _ _ (lt_heap a.used)).trans a.used⟩
theorem UsedW.addLink {w wr w2 : World} {p : Net} {h : Hd} {U : Nat} {f : Nat → Bool} (a : UsedW w wr p h U f) {x : Lk} {A2 : Option Addr} {c2 : Nat} (hg : wr.grownBy w2 (blk h.al)) (hown : Own w2 (w.heap.size + 3) 60 3 A2 (p.links.length + 1) c2 (p.links.flatMap lkCells ++ lkCells x)) :
    UsedW w (w2.setCell ⟨w.heap.size + 1 + 1, 4, none⟩ (.slice A2 (p.links.length + 1) c2)) { p with links := p.links ++ [x] } { h with al := A2, cl := c2 } U f := by
  refine ⟨a.ns.addLink hg hown, a.far, ?_⟩
  rw [Below.heap_setCell _ _ _ _ (by have := a.far; simp; omega), hg.block U (lt_heap a.used) ?_]
  · exact a.used
  · intro e
    by_cases hc : h.cl = 0
    · rw [a.ns.b.zl hc] at e; simp [blk] at e
    · obtain ⟨g, off, cur, e2, hh, _⟩ := a.ns.b.links.2.2.2.2.2 (by omega)
      rw [e2] at e
      simp [blk] at e
      subst e
      rw [a.used] at hh
      injection hh with hh
      injection hh with _ h2
      exact absurd h2 (by decide)
theorem UsedW.set {w wr : World} {p : Net} {h : Hd} {U : Nat} {f : Nat → Bool} (a : UsedW w wr p h U f) (i : Nat) : UsedW w (wr.setCell ⟨U, i, none⟩ (.bool true)) p h U (fun v => if v = i then true else f v) := by
  obtain ⟨⟨⟨h1, h2, h3, h4, h5, h6, h7, h8, h9, h10, z1, z2, z3, z4⟩, h11⟩, hf, hh⟩ := a
  obtain ⟨A, l, c, s1, s2, s3, s4⟩ := h3
  refine ⟨⟨⟨h1.setCell (by simp; omega) _, by simpa [World.setCell] using h2, ⟨A, l, c, (Below.heap_setCell _ _ _ _ (by simp; omega)).trans s1, s2, s3, s4.setCell (by simp; omega) _⟩, (Below.heap_setCell _ _ _ _ (by simp; omega)).trans h4,
    h5.setCell_type (p := ⟨U, i, none⟩) hh (by decide) _, h6.setCell_type (p := ⟨U, i, none⟩) hh (by decide) _, h7, h8.setCell_type (p := ⟨U, i, none⟩) hh (by decide) _, fun z hz => (h9 z hz).setCell_type (p := ⟨U, i, none⟩) hh (by decide) _, h10.setCell_type (p := ⟨U, i, none⟩) hh (by decide) _, z1, z2, z3, z4⟩, (Below.heap_setCell _ _ _ _ (by simp; omega)).trans h11⟩, hf, ?_⟩
  rw [heap_setCell_same _ _ _ _ _ _ hh, boolArr_set]
theorem UsedW.at_ {w wr : World} {p : Net} {h : Hd} {U : Nat} {f : Nat → Bool} (a : UsedW w wr p h U f) {i : Nat} (hi : i < 49) : wr.cell? ⟨U, i, none⟩ = some (.bool (f i)) := by
  rw [cell_of_row wr _ i _ _ _ a.used]; exact boolArr_at f hi
theorem UsedW.free {w wr : World} {p : Net} {h : Hd} {U : Nat} {f : Nat → Bool} (a : UsedW w wr p h U f) (i : Nat) : wr.frozen? ⟨U, i, none⟩ = false := frozen_of_row wr _ i _ _ a.used
/-- The links so far. -/
structure LinksOk (p : Net) (N j : Nat) (f : Nat → Bool) : Prop where
  len : p.links.length ≤ j
  each : ∀ x ∈ p.links, 0 ≤ x.a ∧ x.a < x.b ∧ x.b < N ∧ 1 ≤ x.cost ∧ x.cost ≤ 15
  pairs : (pairsOf p.links).Nodup
  used : ∀ x ∈ p.links, f (7 * x.a + x.b).toNat = true
theorem LinksOk.begin {p : Net} {N : Nat} {f : Nat → Bool} (h : p.links = []) : LinksOk p N 0 f := ⟨by simp [h], by simp [h], by simp [h, pairsOf], by simp [h]⟩
theorem LinksOk.skip {p : Net} {N j : Nat} {f : Nat → Bool} (h : LinksOk p N j f) : LinksOk p N (j + 1) f := ⟨by have := h.len; omega, h.each, h.pairs, h.used⟩
theorem LinksOk.add {p : Net} {N j a b : Nat} {c : Int} {f : Nat → Bool} (h : LinksOk p N j f) (hab : a < b) (hb : b < N) (h1 : 1 ≤ c) (h2 : c ≤ 15) (hf : f (7 * a + b) = false) :
    LinksOk { p with links := p.links ++ [⟨a, b, c⟩] } N (j + 1) (fun v => if v = 7 * a + b then true else f v) where
  len := by have := h.len; simp; omega
  each := by
    intro x hx
    rcases List.mem_append.1 hx with hx | hx
    · exact h.each x hx
    · simp at hx; subst hx; dsimp only; omega
  pairs := by
    show (List.map _ _).Nodup
    rw [List.map_append, List.nodup_append]
    refine ⟨h.pairs, by simp, ?_⟩
    rintro q hq r hr rfl
    simp at hr
    obtain ⟨x, hx, e⟩ := List.mem_map.1 hq
    rw [hr] at e
    simp at e
    have := h.used x hx
    rw [e.1, e.2, show (7 * (a : Int) + (b : Int)).toNat = 7 * a + b from by omega, hf] at this
    cases this
  used := by
    intro x hx
    rcases List.mem_append.1 hx with hx | hx
    · rw [h.used x hx]; simp
    · simp at hx; subst hx
      rw [if_pos (by dsimp only; omega)]
theorem keep_alloc {w : World} {a : Addr} {v : Value} (h : w.cell? a = some v) (o : Obj) : (w.alloc o).cell? a = some v := by
  by_cases hb : a.block < w.heap.size
  · rw [World.cell?_alloc_lt w o _ hb]; exact h
  · simp [World.cell?, Array.getElem?_eq_none (show w.heap.size ≤ a.block by omega)] at h
theorem keep_alloc_drew {w : World} {a : Addr} {v : Value} (h : w.cell? a = some v) (o : Obj) : (w.alloc o).drew.cell? a = some v := keep_alloc h o
theorem NS.alloc {w wr : World} {p : Net} {h : Hd} (a : NS w wr p h) (o : Obj) : NS w (wr.alloc o) p h :=
  a.next (World.grownBy_alloc wr o _) (a.b.src.kept (World.grownBy_alloc wr o none) (by omega) (by have := a.b.size; omega) (by simp))
theorem NS.drew {w wr : World} {p : Net} {h : Hd} (a : NS w wr p h) : NS w wr.drew p h :=
  a.next ⟨rfl, rfl, rfl, Nat.le_refl _, fun _ _ _ => rfl⟩ a.b.src
/-- Behind an append the network's own cells may be written. -/
theorem NS.free2 {w wr w2 : World} {p : Net} {h : Hd} (a : NS w wr p h) {row : Option Nat} (hg : wr.grownBy w2 row) (hr : ∀ g, row = some g → w.heap.size + 3 ≤ g) (i : Nat) : w2.frozen? ⟨w.heap.size + 1 + 1, i, none⟩ = false :=
  frozen_of_row w2 _ i _ _ (a.base hg hr).2.2.2.2
theorem NS.cell2 {w wr w2 : World} {p : Net} {h : Hd} (a : NS w wr p h) {row : Option Nat} (hg : wr.grownBy w2 row) (hr : ∀ g, row = some g → w.heap.size + 3 ≤ g) (i : Nat) : w2.cell? ⟨w.heap.size + 1 + 1, i, none⟩ = (netCells p h)[i]? :=
  cell_of_row w2 _ i _ _ _ (a.base hg hr).2.2.2.2
/-- The next number, as the walk of Net sees it. -/
def NNext (w wr : World) (p : Net) (h : Hd) (n : Int) (e : Ending) (w' : World) : Prop := ∃ k : Int, e = .returned (.int .i64 k) ∧ 0 ≤ k ∧ k < n ∧ NS w w' p h ∧ wr.grownBy w' (some (w.heap.size + 1))
theorem nnext {w wr : World} {p : Net} {h : Hd} (a : NS w wr p h) (n : Int) (hn : 0 < n) (hn2 : n < 1000000) : Calls Tryz.prog 31 #[.pointer (some ⟨w.heap.size + 1, 0, none⟩), .int .i64 n] wr (NNext w wr p h n) :=
  (next_any w.heap.size (w.heap.size + 1) n wr a.b.src (by omega) hn hn2).mono fun e w' ⟨k, h1, h2, h3, h4, h5⟩ => ⟨k, h1, h2, h3, a.next h5 h4, h5⟩

/-! ### Destinations -/
def xys : List ByteArray := [⟨#[120]⟩, ⟨#[121]⟩]
def OrOk (l : List Int) (N : Nat) : Prop := (∃ o : Int, l = [o] ∧ 0 ≤ o ∧ o < N) ∨ ∃ o q : Int, l = [o, q] ∧ 0 ≤ o ∧ o < q ∧ q < N
structure DestsOk (p : Net) (N : Nat) : Prop where
  names : p.dests.map (·.name) = xys.take p.dests.length
  each : ∀ d ∈ p.dests, OrOk d.origins N
theorem DestsOk.begin {p : Net} {N : Nat} (h : p.dests = []) : DestsOk p N := ⟨by simp [h], by simp [h]⟩
theorem DestsOk.add {p : Net} {N : Nat} {nm : ByteArray} {os : List Int} (h : DestsOk p N) (hn : xys[p.dests.length]? = some nm) (ho : OrOk os N) : DestsOk { p with dests := p.dests ++ [⟨nm, os⟩] } N where
  names := by
    show List.map _ (p.dests ++ _) = List.take (p.dests ++ _).length xys
    rw [List.map_append, h.names, List.length_append, List.length_singleton, List.take_add_one, hn]; rfl
  each := by
    intro y hy
    rcases List.mem_append.1 hy with hy | hy
    · exact h.each y hy
    · simp at hy; subst hy; exact ho
section
variable {w wr w' w2 : World} {p : Net} {h : Hd}
/-- A cell of a block of another's is written. -/
theorem NS.setFar (a : NS w wr p h) {g : Nat} {cs : Array Value} {t : TypeId} {fr : Nat × Nat} (hh : wr.heap[g]? = some (.cells cs t fr)) (hf : w.heap.size + 3 ≤ g) (hn : t ≠ 50) (hl : t ≠ 60) (hd : t = 55 → blk h.ad ≠ some g) (hi : t ≠ 3)
    (hc : t = 73 → blk h.ac ≠ some g) (i : Nat) (v : Value) : NS w (wr.setCell ⟨g, i, none⟩ v) p h := by
  obtain ⟨⟨h1, h2, h3, h4, h5, h6, h7, h8, h9, h10, z1, z2, z3, z4⟩, h11⟩ := a
  obtain ⟨A, l, c, s1, s2, s3, s4⟩ := h3
  refine ⟨⟨h1.setCell (by simp; omega) _, by simpa [World.setCell] using h2, ⟨A, l, c, (Below.heap_setCell _ _ _ _ (by simp; omega)).trans s1, s2, s3, s4.setCell (by simp; omega) _⟩, (Below.heap_setCell _ _ _ _ (by simp; omega)).trans h4,
    h5.setCell_type (p := ⟨g, i, none⟩) hh hn _, h6.setCell_type (p := ⟨g, i, none⟩) hh hl _, h7, ?_, fun z hz => (h9 z hz).setCell_type (p := ⟨g, i, none⟩) hh hi _, ?_, z1, z2, z3, z4⟩, (Below.heap_setCell _ _ _ _ (by simp; omega)).trans h11⟩
  · by_cases e : t = 55
    · exact h8.setCell_far (p := ⟨g, i, none⟩) (fun g' hg' e' => hd e (by rw [hg', e'])) _
    · exact h8.setCell_type (p := ⟨g, i, none⟩) hh e _
  · by_cases e : t = 73
    · exact h10.setCell_far (p := ⟨g, i, none⟩) (fun g' hg' e' => hc e (by rw [hg', e'])) _
    · exact h10.setCell_type (p := ⟨g, i, none⟩) hh e _
/-- Numbers are appended to a row of the call's own. -/
theorem NS.grownInt (a : NS w wr p h) {A : Option Addr} {n c : Nat} {xs : List Value} (own : Own wr (w.heap.size + 3) 3 1 A n c xs) (zA : c = 0 → A = none) (lone : ∀ z ∈ p.dests.zip h.dv, 0 < z.2.2 → blk z.2.1 ≠ blk A) (hg : wr.grownBy w' (blk A)) : NS w w' p h := by
  obtain ⟨b1, b2, b3, b4, b5⟩ := a.base hg own.from_
  obtain ⟨⟨h1, h2, h3, h4, h5, h6, h7, h8, h9, h10, z1, z2, z3, z4⟩, h11⟩ := a
  exact ⟨⟨b1, b2, b3, b4, h5.kept' hg (own_apart h5 own (by decide) zA), h6.kept' hg (own_apart h6 own (by decide) zA), h7, h8.kept' hg (own_apart h8 own (by decide) zA), fun z hz => (h9 z hz).kept' hg (lone z hz), h10.kept' hg (own_apart h10 own (by decide) zA), z1, z2, z3, z4⟩, b5⟩
/-- A destination that is being made. -/
structure DW (w wr : World) (p : Net) (h : Hd) (D : Nat) (nm : ByteArray) (os : List Int) (A : Option Addr) (c : Nat) : Prop where
  ns : NS w wr p h
  far : w.heap.size + 3 ≤ D
  d : wr.heap[D]? = some (.cells #[.string nm, .slice A os.length c] 55 (0, 0))
  own : Own wr (w.heap.size + 3) 3 1 A os.length c (ints os)
  zA : c = 0 → A = none
  lone : ∀ z ∈ p.dests.zip h.dv, 0 < z.2.2 → blk z.2.1 ≠ blk A
  apart : blk h.ad ≠ some D
theorem DW.begin (a : NS w wr p h) (o : Obj) (nm : ByteArray) : DW w ((wr.alloc o).alloc (.cells #[.string nm, .slice none 0 0] 55)) p h (wr.heap.size + 1) nm [] none 0 where
  ns := (a.alloc0 _).alloc0 _
  far := by have := a.b.size; omega
  d := by have := heap_alloc_new (wr.alloc o) (.cells #[.string nm, .slice none 0 0] 55); simpa using this
  own := Own.nil _ _ _ _
  zA := fun _ => rfl
  lone := by
    intro z hz hc e
    obtain ⟨g, off, cur, e2, hh, _⟩ := (a.b.origins z hz).2.2.2.2.2 hc
    rw [e2] at e; simp [blk] at e
  apart := by
    intro e
    by_cases hc : h.cd = 0
    · rw [a.b.zd hc] at e; simp [blk] at e
    · obtain ⟨g, off, cur, e2, hh, _⟩ := a.b.dests.2.2.2.2.2 (by omega)
      rw [e2] at e; simp [blk] at e
      have := lt_heap hh
      omega
section
variable {D : Nat} {nm : ByteArray} {os : List Int} {A : Option Addr} {c : Nat}
theorem DW.next (a : DW w wr p h D nm os A c) (b : NS w w' p h) (hg : wr.grownBy w' (some (w.heap.size + 1))) : DW w w' p h D nm os A c :=
  ⟨b, a.far, by rw [hg.block D (lt_heap a.d) (by have := a.far; simp; omega)]; exact a.d, a.own.far (by omega) hg, a.zA, a.lone, a.apart⟩
theorem DW.drew (a : DW w wr p h D nm os A c) : DW w wr.drew p h D nm os A c :=
  ⟨a.ns.next ⟨rfl, rfl, rfl, Nat.le_refl _, fun _ _ _ => rfl⟩ a.ns.b.src, a.far, a.d, a.own.drew, a.zA, a.lone, a.apart⟩
theorem DW.alloc (a : DW w wr p h D nm os A c) (o : Obj) : DW w (wr.alloc o) p h D nm os A c :=
  ⟨a.ns.alloc0 o, a.far, (Below.heap_alloc _ _ _ (lt_heap a.d)).trans a.d, a.own.alloc o, a.zA, a.lone, a.apart⟩
theorem DW.at0 (a : DW w wr p h D nm os A c) : wr.cell? ⟨D, 0, none⟩ = some (.string nm) := by rw [cell_of_row wr _ 0 _ _ _ a.d]; rfl
theorem DW.at1 (a : DW w wr p h D nm os A c) : wr.cell? ⟨D, 1, none⟩ = some (.slice A os.length c) := by rw [cell_of_row wr _ 1 _ _ _ a.d]; rfl
theorem DW.free (a : DW w wr p h D nm os A c) (i : Nat) : wr.frozen? ⟨D, i, none⟩ = false := frozen_of_row wr _ i _ _ a.d
theorem DW.lt (a : DW w wr p h D nm os A c) : D < wr.heap.size := lt_heap a.d
theorem DW.grownD (a : DW w wr p h D nm os A c) (hg : wr.grownBy w2 (blk A)) : w2.heap[D]? = some (.cells #[.string nm, .slice A os.length c] 55 (0, 0)) := by
  rw [hg.block D (lt_heap a.d) ?_]
  · exact a.d
  · intro e
    by_cases hc : c = 0
    · rw [a.zA hc] at e; simp [blk] at e
    · obtain ⟨g, off, cur, e2, hh, _⟩ := a.own.2.2.2.2.2 (by omega)
      rw [e2] at e; simp [blk] at e
      subst e
      rw [a.d] at hh
      injection hh with hh
      injection hh with _ h2
      exact absurd h2 (by decide)
/-- Behind an append to its origins, the store of what comes ahead. -/
theorem DW.cell2 (a : DW w wr p h D nm os A c) (hg : wr.grownBy w2 (blk A)) : w2.cell? ⟨D, 1, none⟩ = some (.slice A os.length c) := by rw [cell_of_row w2 _ 1 _ _ _ (a.grownD hg)]; rfl
theorem DW.free2 (a : DW w wr p h D nm os A c) (hg : wr.grownBy w2 (blk A)) (i : Nat) : w2.frozen? ⟨D, i, none⟩ = false := frozen_of_row w2 _ i _ _ (a.grownD hg)
theorem DW.app (a : DW w wr p h D nm os A c) {x : Int} {A2 : Option Addr} {n c2 : Nat} (hn : n = os.length + 1) (hg : wr.grownBy w2 (blk A)) (hblk : A2 = A ∨ blk A2 = some wr.heap.size) (hown : Own w2 (w.heap.size + 3) 3 1 A2 n c2 (ints os ++ [.int .i64 x])) :
    DW w (w2.setCell ⟨D, 1, none⟩ (.slice A2 n c2)) p h D nm (os ++ [x]) A2 c2 := by
  subst hn
  have hd2 := a.grownD hg
  have hns := a.ns.grownInt a.own a.zA a.lone hg
  refine ⟨hns.setFar hd2 a.far (by decide) (by decide) (fun _ => a.apart) (by decide) (fun e => absurd e (by decide)) _ _, a.far, ?_, ?_, ?_, ?_, a.apart⟩
  · rw [heap_setCell_same _ _ _ _ _ _ hd2]; simp
  · have := hown.setCell_type (p := ⟨D, 1, none⟩) hd2 (by decide) (.slice A2 (os.length + 1) c2)
    simpa [ints] using this
  · intro e; have := hown.2.1; omega
  · intro z hz hc e
    rcases hblk with hb | hb
    · rw [hb] at e; exact a.lone z hz hc e
    · rw [hb] at e
      obtain ⟨g, off, cur, e2, hh, _⟩ := (a.ns.b.origins z hz).2.2.2.2.2 hc
      rw [e2] at e; simp [blk] at e
      have := lt_heap hh
      omega
end
/-! ### Checks -/
/-- A check that is being made. -/
structure CW (w wr : World) (p : Net) (h : Hd) (C : Nat) (x : Ck) : Prop where
  ns : NS w wr p h
  far : w.heap.size + 3 ≤ C
  c : wr.heap[C]? = some (.cells (ckCells x).toArray 73 (0, 0))
  apart : blk h.ac ≠ some C
theorem CW.begin (a : NS w wr p h) (x : Ck) : CW w (wr.alloc (.cells (ckCells x).toArray 73)) p h wr.heap.size x where
  ns := a.alloc0 _
  far := a.b.size
  c := heap_alloc_new _ _
  apart := by
    intro e
    by_cases hc : h.cc = 0
    · rw [a.b.zc hc] at e; simp [blk] at e
    · obtain ⟨g, off, cur, e2, hh, _⟩ := a.b.checks.2.2.2.2.2 (by omega)
      rw [e2] at e; simp [blk] at e
      have := lt_heap hh
      omega
section
variable {C : Nat} {x x' : Ck}
theorem CW.next (a : CW w wr p h C x) (b : NS w w' p h) (hg : wr.grownBy w' (some (w.heap.size + 1))) : CW w w' p h C x :=
  ⟨b, a.far, by rw [hg.block C (lt_heap a.c) (by have := a.far; simp; omega)]; exact a.c, a.apart⟩
theorem CW.set (a : CW w wr p h C x) (i : Nat) (v : Value) (hx : (ckCells x').toArray = (ckCells x).toArray.setIfInBounds i v) : CW w (wr.setCell ⟨C, i, none⟩ v) p h C x' :=
  ⟨a.ns.setFar a.c a.far (by decide) (by decide) (fun e => absurd e (by decide)) (by decide) (fun _ => a.apart) _ _, a.far, by rw [heap_setCell_same _ _ _ _ _ _ a.c, hx], a.apart⟩
theorem CW.all (a : CW w wr p h C x) : wr.cell? ⟨C, 0, none⟩ = some (.int .i64 x.kind) ∧ wr.cell? ⟨C, 1, none⟩ = some (.int .i64 x.node) ∧ wr.cell? ⟨C, 2, none⟩ = some (.int .i64 x.dest) ∧ wr.cell? ⟨C, 3, none⟩ = some (.int .i64 x.limit) ∧ wr.cell? ⟨C, 4, none⟩ = some (.int .i64 x.other) :=
  ⟨cell_of_row wr _ 0 _ _ _ a.c, cell_of_row wr _ 1 _ _ _ a.c, cell_of_row wr _ 2 _ _ _ a.c, cell_of_row wr _ 3 _ _ _ a.c, cell_of_row wr _ 4 _ _ _ a.c⟩
theorem CW.free (a : CW w wr p h C x) (i : Nat) : wr.frozen? ⟨C, i, none⟩ = false := frozen_of_row wr _ i _ _ a.c
end
end
theorem wrap_small {k : Int} (h0 : 0 ≤ k) (h1 : k < 4) : IntKind.i64.wrap (1 + k) = 1 + k := IntWalk.i64_in _ (by omega)
theorem keep_set5 {w : World} {B C i : Nat} {v v0 v1 v2 v3 v4 : Value} (h : w.cell? ⟨B, i, none⟩ = some v) (hne : B ≠ C) :
    (((((w.setCell ⟨C, 0, none⟩ v0).setCell ⟨C, 1, none⟩ v1).setCell ⟨C, 2, none⟩ v2).setCell ⟨C, 3, none⟩ v3).setCell ⟨C, 4, none⟩ v4).cell? ⟨B, i, none⟩ = some v := by
  have key : ∀ (wx : World) (j : Nat) (u : Value), wx.cell? ⟨B, i, none⟩ = some v → (wx.setCell ⟨C, j, none⟩ u).cell? ⟨B, i, none⟩ = some v := fun wx j u hx => by
    rw [World.cell?_setCell_other wx ⟨C, j, none⟩ ⟨B, i, none⟩ u (fun e => by injection e with e1; first | exact hne e1 | exact hne e1.symm)]; exact hx
  exact key _ _ _ (key _ _ _ (key _ _ _ (key _ _ _ (key _ _ _ h))))
theorem CW.drew {w wr : World} {p : Net} {h : Hd} {C : Nat} {x : Ck} (a : CW w wr p h C x) : CW w wr.drew p h C x :=
  ⟨a.ns.next ⟨rfl, rfl, rfl, Nat.le_refl _, fun _ _ _ => rfl⟩ a.ns.b.src, a.far, a.c, a.apart⟩
/-- The check is put where it lies. -/
theorem CW.put {w wr : World} {p : Net} {h : Hd} {C : Nat} {x0 : Ck} (a : CW w wr p h C x0) (x : Ck) :
    CW w (((((wr.setCell ⟨C, 0, none⟩ (.int .i64 x.kind)).setCell ⟨C, 1, none⟩ (.int .i64 x.node)).setCell ⟨C, 2, none⟩ (.int .i64 x.dest)).setCell ⟨C, 3, none⟩ (.int .i64 x.limit)).setCell ⟨C, 4, none⟩ (.int .i64 x.other)) p h C x := by
  have a1 := a.set (x' := { x0 with kind := x.kind }) 0 (.int .i64 x.kind) rfl
  have a2 := a1.set (x' := { x0 with kind := x.kind, node := x.node }) 1 (.int .i64 x.node) rfl
  have a3 := a2.set (x' := { x0 with kind := x.kind, node := x.node, dest := x.dest }) 2 (.int .i64 x.dest) rfl
  have a4 := a3.set (x' := { x0 with kind := x.kind, node := x.node, dest := x.dest, limit := x.limit }) 3 (.int .i64 x.limit) rfl
  exact a4.set (x' := x) 4 (.int .i64 x.other) rfl
/-! ### The whole -/
theorem Rd.take {w : World} {B k : Nat} {A : Option Addr} {l : List Int} (h : Rd w B 1 A l.length (ints l)) (hk : k ≤ l.length) : Rd w B 1 A k (ints (l.take k)) := by
  refine ⟨by simp [ints]; omega, fun hn => ?_⟩
  obtain ⟨b, o, e, hb, hc⟩ := h.2 (by omega)
  refine ⟨b, o, e, hb, fun j u hu => hc j u ?_⟩
  simp only [ints, List.getElem?_map, List.getElem?_take] at hu ⊢
  split at hu
  · exact hu
  · simp at hu
/-- The start of Net: the answer's block, the source, the network. -/
theorem NS.begin {w : World} {A : Option Addr} {l : List Int} {c : Nat} (hlc : l.length ≤ c) (hr : Rd w w.heap.size 1 A l.length (ints l)) (hi : ∀ x ∈ l, In64 x) :
    NS w (((w.alloc (.cells zeroCells 30)).alloc (.cells #[.slice A l.length c] 68)).alloc (.cells #[.int .i64 1, .int .i64 0, .int .i64 0, .slice none 0 0, .slice none 0 0, .slice none 0 0, .slice none 0 0] 30)) ⟨1, 0, 0, [], [], [], []⟩ ⟨none, 0, none, 0, none, 0, none, 0, []⟩ where
  b := {
    below := (((Below.refl _ _).alloc (Nat.le_refl _) _).alloc (by simp) _).alloc (by simp; omega) _
    size := by simp
    src := by
      refine ⟨A, l, c, ?_, hlc, hi, ((hr.alloc (Nat.le_refl _) _).alloc (by simp) _).alloc (by simp; omega) _⟩
      have h1 := heap_alloc_new (w.alloc (.cells zeroCells 30)) (.cells #[.slice A l.length c] 68)
      exact (Below.heap_alloc _ _ _ (by simp)).trans (by simpa using h1)
    res := (Below.heap_alloc _ _ _ (by simp; omega)).trans ((Below.heap_alloc _ _ _ (by simp)).trans (heap_alloc_new _ _))
    nodes := Own.nil _ _ _ _
    links := Own.nil _ _ _ _
    dlen := rfl
    dests := Own.nil _ _ _ _
    origins := by intro z hz; cases hz
    checks := Own.nil _ _ _ _
    zn := fun _ => rfl
    zl := fun _ => rfl
    zd := fun _ => rfl
    zc := fun _ => rfl }
  plan := by
    have h1 := heap_alloc_new ((w.alloc (.cells zeroCells 30)).alloc (.cells #[.slice A l.length c] 68)) (.cells #[.int .i64 1, .int .i64 0, .int .i64 0, .slice none 0 0, .slice none 0 0, .slice none 0 0, .slice none 0 0] 30)
    simpa [netCells] using h1
/-- What is known of a network behind its links. -/
structure Mid (p : Net) (N : Nat) : Prop where
  nodes : NodesOk p N
  l9 : p.links.length ≤ 9
  links : ∀ x ∈ p.links, 0 ≤ x.a ∧ x.a < x.b ∧ x.b < N ∧ 1 ≤ x.cost ∧ x.cost ≤ 15
  pairs : (pairsOf p.links).Nodup
  head : (p.proto = 1 ∧ p.cap = 0) ∨ (p.proto = 2 ∧ 1 ≤ p.cap ∧ p.cap ≤ 6)
  k : 0 ≤ p.k ∧ p.k ≤ 3 ∧ p.k ≤ p.links.length
theorem Mid.same {p p' : Net} {N : Nat} (a : Mid p N) (e1 : p'.nodes = p.nodes) (e2 : p'.links = p.links) (e3 : p'.proto = p.proto) (e4 : p'.cap = p.cap) (e5 : p'.k = p.k) : Mid p' N := by
  cases p; cases p'
  simp only at e1 e2 e3 e4 e5
  subst e1 e2 e3 e4 e5
  exact ⟨a.nodes, a.l9, a.links, a.pairs, a.head, a.k⟩
/-- What Net hands back may be: -/
structure NetOk (p : Net) : Prop where
  head : (p.proto = 1 ∧ p.cap = 0) ∨ (p.proto = 2 ∧ 1 ≤ p.cap ∧ p.cap ≤ 6)
  k : 0 ≤ p.k ∧ p.k ≤ 3 ∧ p.k ≤ p.links.length
  n : 2 ≤ p.nodes.length ∧ p.nodes.length ≤ 7
  nodes : NodesOk p p.nodes.length
  l9 : p.links.length ≤ 9
  links : ∀ x ∈ p.links, 0 ≤ x.a ∧ x.a < x.b ∧ x.b < p.nodes.length ∧ 1 ≤ x.cost ∧ x.cost ≤ 15
  pairs : (pairsOf p.links).Nodup
  d12 : 1 ≤ p.dests.length ∧ p.dests.length ≤ 2
  dests : DestsOk p p.nodes.length
  c6 : p.checks.length ≤ 6
  checks : ∀ c ∈ p.checks, checkB p c = true
theorem letters_ok : ∀ n < 8, ∀ m < 3, (letters.take n ++ xys.take m).any badName = false ∧ (letters.take n ++ xys.take m).Nodup := by decide +kernel
theorem OrOk.destB {x : Ds} {N : Nat} (h : OrOk x.origins N) : destB x N = true := by
  unfold YtablbagdnmbbfaaGreat.destB
  rcases h with ⟨o, e, h1, h2⟩ | ⟨o, q, e, h1, h2, h3⟩
  · rw [e]
    simp [okAt, placeB]; omega
  · rw [e]
    simp [okAt, placeB, List.range_succ]; omega
theorem NetOk.good {p : Net} (a : NetOk p) : Good p where
  small := ⟨by have := a.n; omega, by have := a.l9; omega, by have := a.d12; omega, by have := a.c6; omega, fun d hd => by
    rcases a.dests.each d hd with ⟨o, e, _⟩ | ⟨o, q, e, _⟩ <;> rw [e] <;> simp⟩
  names := by
    unfold namesOf ndNames dsNames
    rw [a.nodes.2.1, a.dests.names]
    exact (letters_ok _ (by have := a.n; omega) _ (by have := a.d12; omega)).1
  right := by
    have hnames : namedB p = true := by
      unfold namedB namesOf ndNames dsNames
      rw [a.nodes.2.1, a.dests.names]
      obtain ⟨h1, h2⟩ := letters_ok _ (show p.nodes.length < 8 by have := a.n; omega) _ (show p.dests.length < 3 by have := a.d12; omega)
      rw [h1]; simp [h2]
    have h1 : routingB p = true := by
      unfold routingB withinB
      rcases a.head with ⟨e1, e2⟩ | ⟨e1, e2, e3⟩
      · simp [e1, e2]
      · simp [e1]; omega
    have h2 : withinB p.k 0 (min 4 (p.links.length : Int)) = true := by
      have := a.k
      unfold withinB; simp; omega
    have h3 : nodesB p = true := by
      unfold nodesB withinB
      have := a.n
      simp only [Bool.and_eq_true, decide_eq_true_eq, Bool.not_eq_true']
      refine ⟨by omega, ?_⟩
      rw [List.any_eq_false]
      intro x hx
      have := a.nodes.2.2 x hx
      simp [badNode, withinB]; omega
    have h4 : linksB p = true := by
      unfold linksB
      simp only [Bool.and_eq_true, decide_eq_true_eq, List.all_eq_true]
      refine ⟨fun x hx => ?_, by have := a.l9; omega, a.pairs⟩
      have := a.links x hx
      simp [lkB, placeB, withinB]; omega
    have h5 : p.dests.any (fun d => !destB d p.nodes.length) = false := by
      rw [List.any_eq_false]
      intro d hd
      simp [(a.dests.each d hd).destB]
    have h6 : p.checks.any (badCheck p) = false := by
      rw [List.any_eq_false]
      intro c hc
      simp [badCheck, a.checks c hc]
    unfold rightB
    rw [h1, h2, h3, h4, hnames, h5, h6]
    have := a.d12
    have := a.c6
    simp; omega
/-- .. and it lies in memory of the call's own. -/
structure NetOwn (w : World) (B : Nat) (p : Net) (h : Hd) : Prop where
  nodes : Own w B 50 2 h.an p.nodes.length h.cn (p.nodes.flatMap ndCells)
  links : Own w B 60 3 h.al p.links.length h.cl (p.links.flatMap lkCells)
  dlen : h.dv.length = p.dests.length
  dests : Own w B 55 2 h.ad p.dests.length h.cd ((p.dests.zip h.dv).flatMap dsCells)
  origins : ∀ z ∈ p.dests.zip h.dv, Own w B 3 1 z.2.1 z.1.origins.length z.2.2 (ints z.1.origins)
  checks : Own w B 73 5 h.ac p.checks.length h.cc (p.checks.flatMap ckCells)
  zn : h.cn = 0 → h.an = none
  zl : h.cl = 0 → h.al = none
  zd : h.cd = 0 → h.ad = none
  zc : h.cc = 0 → h.ac = none
theorem NetOwn.net {w : World} {B : Nat} {p : Net} {h : Hd} (a : NetOwn w B p h) : NetR w w.heap.size p h :=
  ⟨a.nodes.rd, a.links.rd, a.dlen, a.dests.rd, fun z hz => (a.origins z hz).rd, a.checks.rd⟩
theorem NB.own {w wr : World} {p : Net} {h : Hd} (a : NB w wr p h) : NetOwn wr w.heap.size p h :=
  ⟨a.nodes.more (by omega), a.links.more (by omega), a.dlen, a.dests.more (by omega), fun z hz => (a.origins z hz).more (by omega), a.checks.more (by omega), a.zn, a.zl, a.zd, a.zc⟩
/-- The network is put where the answer lies. -/
theorem NB.answer {w wr w' : World} {p : Net} {h : Hd} (a : NB w wr p h) (hg : wr.grownBy w' (some w.heap.size)) : NetOwn w' w.heap.size p h ∧ Below w.heap.size w w' := by
  have hf : ∀ {s n c : Nat} {e : TypeId} {A : Option Addr} {xs : List Value}, Own wr (w.heap.size + 3) e s A n c xs → Own w' w.heap.size e s A n c xs :=
    fun h => (h.far (by omega) hg).more (by omega)
  exact ⟨⟨hf a.nodes, hf a.links, a.dlen, hf a.dests, fun z hz => hf (a.origins z hz), hf a.checks, a.zn, a.zl, a.zd, a.zc⟩, a.below.grown hg (by have := a.size; omega) (fun g hg => by injection hg with hg; omega)⟩
def NetPost (w : World) (e : Ending) (w' : World) : Prop := ∃ p h, e = .returned (netV p h) ∧ NetOk p ∧ NetOwn w' w.heap.size p h ∧ Below w.heap.size w w'
end Go.Proofs.YtablbagdnmbbfaaGreat

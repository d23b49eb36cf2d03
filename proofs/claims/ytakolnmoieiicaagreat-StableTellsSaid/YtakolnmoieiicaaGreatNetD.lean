/- The walks of pick and of (*source).next. What the walk of Net keeps. No program is walked here. What the walk of Net keeps in its loops. No program is walked here, but next. What the walk of Net keeps in its last loop, and at its end. No program is walked here. A network in a box. No program is walked here. -/
import Derived.Test.YtakolnmoieiicaaGreatApi
import Derived.Deep.AppendLies
namespace Go.Proofs.YtakolnmoieiicaaGreat
set_option linter.unusedSimpArgs false
set_option linter.unusedVariables false
open Go.RowKit

section
theorem pick_any (c n : Int) (w : World) (hc : In64 c) (hn : 0 < n) (hn2 : n < 10000000000) : Calls Tryz.prog 28 #[.int .i64 c, .int .i64 n] w fun e w' => e = .returned (.int .i64 (pickV c n)) ∧ w = w' := by
  obtain ⟨h1, h2⟩ := hc
  have hn0 : n ≠ 0 := by omega
  by_cases h : c < 0
  · have HN := Lib.hid (show pickV c n = Int.tmod (-(c + 1)) n from by unfold pickV; rw [if_pos h, Int.tmod_eq_emod_of_nonneg (by omega)])
    go_enter Tryz.func28, Tryz.ntmps28
    go_wp2
    go_ret
    exact ⟨ret_int (by rw [HN.out, Int.neg_tmod]), rfl⟩
  · have HN := Lib.hid (show pickV c n = c % n from by unfold pickV; rw [if_neg h])
    go_enter Tryz.func28, Tryz.ntmps28
    go_wp2
    go_ret
    exact ⟨ret_int (by rw [HN.out]), rfl⟩

/-- Block b holds the numbers that are still to come. -/
def Src (B b : Nat) (w : World) : Prop := ∃ (A : Option Addr) (l : List Int) (c : Nat), w.heap[b]? = some (.cells #[.slice A l.length c] 51 (0, 0)) ∧ l.length ≤ c ∧ (∀ x ∈ l, In64 x) ∧ Rd w B 1 A l.length (ints l)
/-- A number below n came; only the source has turned. -/
def NextPost (B b : Nat) (n : Int) (w : World) (e : Ending) (w' : World) : Prop := ∃ k : Int, e = .returned (.int .i64 k) ∧ 0 ≤ k ∧ k < n ∧ Src B b w' ∧ w.grownBy w' (some b)
theorem Src.grown {B b : Nat} {w w' : World} {row : Option Nat} (h : Src B b w) (hg : w.grownBy w' row) (hb : row ≠ some b) (hB : B ≤ w.heap.size) (hr : ∀ g, row = some g → B ≤ g) : Src B b w' := by
  obtain ⟨A, l, c, hh, hc, hi, hr'⟩ := h
  exact ⟨A, l, c, by rw [hg.block b (lt_heap hh) (fun e => hb e.symm)]; exact hh, hc, hi, hr'.grown hg hB hr⟩
theorem ints_at {l : List Int} {i : Nat} {x : Int} (h : l[i]? = some x) : (ints l)[i]? = some (.int .i64 x) := by simp [ints, h]
theorem rd_tail {w : World} {B : Nat} {b o : Nat} {x : Int} {l : List Int} (h : Rd w B 1 (some ⟨b, o, none⟩) (l.length + 1) (ints (x :: l))) : Rd w B 1 (some ⟨b, o + 1, none⟩) l.length (ints l) := by
  refine ⟨by simp [ints], fun _ => ?_⟩
  obtain ⟨b', o', e, hb, hc⟩ := h.2 (by omega)
  injection e with e
  injection e with e1 e2
  subst e1 e2
  exact ⟨b, o + 1, rfl, hb, fun j u hu => by have := hc (j + 1) u (by simpa [ints] using hu); rwa [show o + 1 + j = o + (j + 1) from by omega]⟩
theorem Src.set {B b : Nat} {w : World} {cs : Array Value} {A : Option Addr} {l : List Int} {c : Nat} (hh : w.heap[b]? = some (.cells cs 51 (0, 0))) (h1 : cs.size = 1) (hB : B ≤ b) (hc : l.length ≤ c) (hi : ∀ x ∈ l, In64 x) (hr : Rd w B 1 A l.length (ints l)) :
    Src B b (w.setCell ⟨b, 0, none⟩ (.slice A l.length c)) ∧ w.grownBy (w.setCell ⟨b, 0, none⟩ (.slice A l.length c)) (some b) := by
  refine ⟨⟨A, l, c, ?_, hc, hi, hr.setCell hB _⟩, ⟨rfl, rfl, rfl, by simp [World.setCell], fun i _ hne => Below.heap_setCell _ _ _ _ (fun e => hne (by simp [e]))⟩⟩
  rw [heap_setCell_same w b 0 cs _ _ hh]
  have : cs.setIfInBounds 0 (.slice A l.length c) = #[.slice A l.length c] := by
    apply Array.ext_getElem?
    intro i
    rw [Array.getElem?_setIfInBounds]
    by_cases e : i = 0
    · subst e; simp [h1]
    · rw [if_neg (fun h => e h.symm), Array.getElem?_eq_none (by omega), Array.getElem?_eq_none (by simp; omega)]
  rw [this]

theorem next_any (B b : Nat) (n : Int) (w : World) (h : Src B b w) (hB : B ≤ b) (hn : 0 < n) (hn2 : n < 1000000) : Calls Tryz.prog 17 #[.pointer (some ⟨b, 0, none⟩), .int .i64 n] w (NextPost B b n w) := by
  obtain ⟨A, l, c, hh, hc, hi, hr⟩ := h
  have hcell : w.cell? ⟨b, 0, none⟩ = some (.slice A l.length c) := by rw [cell_of_row w b 0 _ _ _ hh]; rfl
  rcases l with _ | ⟨x, l⟩
  · have HF : Hid (NextPost B b n w (.returned (.int .i64 0)) w) := Lib.hid ⟨0, rfl, by omega, hn, ⟨A, [], c, hh, hc, hi, hr⟩, World.grownBy.refl _ _⟩
    clear hr hi hh
    go_enter Tryz.func17, Tryz.ntmps17
    go_wp2
    go_ret
    exact HF.out
  · obtain ⟨b', o, rfl, hb, hx⟩ := hr.one (i := 0) (x := .int .i64 x) rfl
    simp at hx
    have HX := Lib.hid (hi x (by simp))
    have HF : Hid (∀ (A : Option Addr) (c' : Nat), l.length ≤ c' → Rd w B 1 A l.length (ints l) → NextPost B b n w (.returned (.int .i64 (pickV x n))) (w.setCell ⟨b, 0, none⟩ (.slice A l.length c'))) := Lib.hid (fun A c' h1 h2 =>
      ⟨pickV x n, rfl, (pickV_in hn).1, (pickV_in hn).2, (Src.set hh (by simp) hB h1 (fun y hy => hi y (List.mem_cons_of_mem _ hy)) h2).1, (Src.set hh (by simp) hB h1 (fun y hy => hi y (List.mem_cons_of_mem _ hy)) h2).2⟩)
    have HR := Lib.hid (rd_tail hr)
    have HQ := Lib.hid hr
    have hfr : w.frozen? ⟨b, 0, none⟩ = false := frozen_of_row w b 0 _ _ hh
    simp only [List.length_cons] at hcell hc
    clear hr hi hh
    by_cases hc1 : c = 1
    · have hl0 : l = [] := by cases l with | nil => rfl | cons => simp at hc; omega
      subst hc1 hl0
      simp at hcell
      go_enter Tryz.func17, Tryz.ntmps17
      go_wp2_with (go_at_call 28; refine (pick_any _ _ _ HX.out hn (by omega)).mono ?_; rintro e w' ⟨rfl, rfl⟩)
      go_ret
      exact HF.out _ 0 (by simp) (Rd.nil _)
    · go_enter Tryz.func17, Tryz.ntmps17
      go_wp2_with (go_at_call 28; refine (pick_any _ _ _ HX.out hn (by omega)).mono ?_; rintro e w' ⟨rfl, rfl⟩)
      go_ret
      exact HF.out _ (c - 1) (by omega) HR.out
end

section
theorem Own.kept' {w w' : World} {B s n c : Nat} {e : TypeId} {A : Option Addr} {xs : List Value} {row : Option Nat} (h : Own w B e s A n c xs) (hg : w.grownBy w' row) (hne : 0 < c → blk A ≠ row) : Own w' B e s A n c xs := by
  obtain ⟨h1, h2, h3, h4, hb, h5⟩ := h
  refine ⟨h1, h2, h3, h4, hb, fun hc => ?_⟩
  obtain ⟨g, off, cur, rfl, hh, r⟩ := h5 hc
  refine ⟨g, off, cur, rfl, ?_, r⟩
  rw [hg.block g (lt_heap hh) (by have := hne hc; simpa [blk] using this)]
  exact hh
/-- Rows of different types lie in different blocks. -/
theorem own_apart {w : World} {B B' s s' n n' c c' : Nat} {e e' : TypeId} {A A' : Option Addr} {xs xs' : List Value} (h : Own w B e s A n c xs) (h' : Own w B' e' s' A' n' c' xs') (he : e ≠ e') (hz : c' = 0 → A' = none) : 0 < c → blk A ≠ blk A' := by
  intro hc hb
  obtain ⟨g, off, cur, rfl, hh, _⟩ := h.2.2.2.2.2 hc
  by_cases hc' : c' = 0
  · rw [hz hc'] at hb; simp [blk] at hb
  · obtain ⟨g', off', cur', rfl, hh', _⟩ := h'.2.2.2.2.2 (by omega)
    simp [blk] at hb
    subst hb
    rw [hh] at hh'
    injection hh' with hh'
    injection hh' with _ h2
    exact he h2

def zeroCells : Array Value := #[.int .i64 0, .int .i64 0, .int .i64 0, .slice none 0 0, .slice none 0 0, .slice none 0 0, .slice none 0 0]
/-- All but the plan's own block. -/
structure NB (w wr : World) (p : Net) (h : Hd) : Prop where
  below : Below w.heap.size w wr
  size : w.heap.size + 3 ≤ wr.heap.size
  src : Src w.heap.size (w.heap.size + 1) wr
  res : wr.heap[w.heap.size]? = some (.cells zeroCells 30 (0, 0))
  nodes : Own wr (w.heap.size + 3) 55 2 h.an p.nodes.length h.cn (p.nodes.flatMap ndCells)
  links : Own wr (w.heap.size + 3) 58 3 h.al p.links.length h.cl (p.links.flatMap lkCells)
  dlen : h.dv.length = p.dests.length
  dests : Own wr (w.heap.size + 3) 60 2 h.ad p.dests.length h.cd ((p.dests.zip h.dv).flatMap dsCells)
  origins : ∀ z ∈ p.dests.zip h.dv, Own wr (w.heap.size + 3) 3 1 z.2.1 z.1.origins.length z.2.2 (ints z.1.origins)
  checks : Own wr (w.heap.size + 3) 62 5 h.ac p.checks.length h.cc (p.checks.flatMap ckCells)
  zn : h.cn = 0 → h.an = none
  zl : h.cl = 0 → h.al = none
  zd : h.cd = 0 → h.ad = none
  zc : h.cc = 0 → h.ac = none
/-- .. and the plan's own block. -/
structure NS (w wr : World) (p : Net) (h : Hd) : Prop where
  b : NB w wr p h
  plan : wr.heap[w.heap.size + 1 + 1]? = some (.cells (netCells p h) 30 (0, 0))
section
variable {w wr w' w2 : World} {p p' : Net} {h : Hd}
theorem Own.far {B B' s n c : Nat} {e : TypeId} {A : Option Addr} {xs : List Value} (h : Own w B e s A n c xs) (hB : B' < B) (hg : w.grownBy w' (some B')) : Own w' B e s A n c xs :=
  h.kept' hg (fun _ e => by have := h.from_ _ e; omega)
/-- Behind steps that turn the source alone. -/
theorem NS.next (a : NS w wr p h) (hg : wr.grownBy w' (some (w.heap.size + 1))) (hs : Src w.heap.size (w.heap.size + 1) w') : NS w w' p h := by
  obtain ⟨⟨h1, h2, h3, h4, h5, h6, h7, h8, h9, h10, z1, z2, z3, z4⟩, h11⟩ := a
  have hsz := hg.size
  refine ⟨⟨h1.grown hg (by omega) (fun g hg => by injection hg with hg; omega), by omega, hs, ?_, h5.far (by omega) hg, h6.far (by omega) hg, h7, h8.far (by omega) hg, fun z hz => (h9 z hz).far (by omega) hg, h10.far (by omega) hg, z1, z2, z3, z4⟩, ?_⟩
  · rw [hg.block _ (by omega) (by simp)]; exact h4
  · rw [hg.block _ (by omega) (by simp)]; exact h11
theorem NS.cells (a : NS w wr p h) (i : Nat) : wr.cell? ⟨w.heap.size + 1 + 1, i, none⟩ = (netCells p h)[i]? := cell_of_row wr _ i _ _ _ a.plan
theorem NS.free (a : NS w wr p h) (i : Nat) : wr.frozen? ⟨w.heap.size + 1 + 1, i, none⟩ = false := frozen_of_row wr _ i _ _ a.plan
theorem NS.all (a : NS w wr p h) : wr.cell? ⟨w.heap.size + 1 + 1, 0, none⟩ = some (.int .i64 p.proto) ∧ wr.cell? ⟨w.heap.size + 1 + 1, 1, none⟩ = some (.int .i64 p.cap) ∧ wr.cell? ⟨w.heap.size + 1 + 1, 2, none⟩ = some (.int .i64 p.k) ∧
    wr.cell? ⟨w.heap.size + 1 + 1, 3, none⟩ = some (.slice h.an p.nodes.length h.cn) ∧ wr.cell? ⟨w.heap.size + 1 + 1, 4, none⟩ = some (.slice h.al p.links.length h.cl) ∧ wr.cell? ⟨w.heap.size + 1 + 1, 5, none⟩ = some (.slice h.ad p.dests.length h.cd) ∧ wr.cell? ⟨w.heap.size + 1 + 1, 6, none⟩ = some (.slice h.ac p.checks.length h.cc) :=
  ⟨a.cells 0, a.cells 1, a.cells 2, a.cells 3, a.cells 4, a.cells 5, a.cells 6⟩
theorem NB.set (a : NB w wr p h) (i : Nat) (v : Value) : NB w (wr.setCell ⟨w.heap.size + 1 + 1, i, none⟩ v) p h := by
  obtain ⟨h1, h2, h3, h4, h5, h6, h7, h8, h9, h10, z1, z2, z3, z4⟩ := a
  have hf : ∀ {s n c : Nat} {e : TypeId} {A : Option Addr} {xs : List Value}, Own wr (w.heap.size + 3) e s A n c xs → Own (wr.setCell ⟨w.heap.size + 1 + 1, i, none⟩ v) (w.heap.size + 3) e s A n c xs :=
    fun h => h.setCell_far (fun g hg => by have := h.from_ g hg; simp; omega) v
  obtain ⟨A, l, c, s1, s2, s3, s4⟩ := h3
  refine ⟨h1.setCell (by simp; omega) _, by simpa [World.setCell] using h2, ⟨A, l, c, (Below.heap_setCell _ _ _ _ (by simp <;> omega)).trans s1, s2, s3, s4.setCell (by simp; omega) _⟩, (Below.heap_setCell _ _ _ _ (by simp <;> omega)).trans h4, hf h5, hf h6, h7, hf h8, fun z hz => hf (h9 z hz), hf h10, z1, z2, z3, z4⟩
theorem NS.set (a : NS w wr p h) (i : Nat) (v : Value) (hp : netCells p' h = (netCells p h).setIfInBounds i v) (e1 : p'.nodes = p.nodes) (e2 : p'.links = p.links) (e3 : p'.dests = p.dests) (e4 : p'.checks = p.checks) : NS w (wr.setCell ⟨w.heap.size + 1 + 1, i, none⟩ v) p' h := by
  have hb := a.b.set i v
  refine ⟨?_, by rw [hp, heap_setCell_same _ _ _ _ _ _ a.plan]⟩
  obtain ⟨h1, h2, h3, h4, h5, h6, h7, h8, h9, h10, z1, z2, z3, z4⟩ := hb
  exact ⟨h1, h2, h3, h4, by rw [e1]; exact h5, by rw [e2]; exact h6, by rw [e3]; exact h7, by rw [e3]; exact h8, by rw [e3]; exact h9, by rw [e4]; exact h10, z1, z2, z3, z4⟩
theorem Src.kept {B b : Nat} {row : Option Nat} (h : Src B b wr) (hg : wr.grownBy w' row) (hbB : B ≤ b) (hbw : b < wr.heap.size) (hr : ∀ g, row = some g → b < g) : Src B b w' :=
  h.grown hg (fun e => by have := hr b e; omega) (by omega) (fun g hg => by have := hr g hg; omega)
/-- What is not touched by an append to a row of the call's own. -/
theorem NS.base (a : NS w wr p h) {row : Option Nat} (hg : wr.grownBy w' row) (hr : ∀ g, row = some g → w.heap.size + 3 ≤ g) :
    Below w.heap.size w w' ∧ w.heap.size + 3 ≤ w'.heap.size ∧ Src w.heap.size (w.heap.size + 1) w' ∧ w'.heap[w.heap.size]? = some (.cells zeroCells 30 (0, 0)) ∧ w'.heap[w.heap.size + 1 + 1]? = some (.cells (netCells p h) 30 (0, 0)) := by
  have hsz := hg.size
  have h2 := a.b.size
  refine ⟨a.b.below.grown hg (by omega) (fun g hg => by have := hr g hg; omega), by omega, a.b.src.kept hg (by omega) (by omega) (fun g hg => by have := hr g hg; omega), ?_, ?_⟩
  · rw [hg.block _ (by omega) (fun e => by have := hr _ e.symm; omega)]; exact a.b.res
  · rw [hg.block _ (by omega) (fun e => by have := hr _ e.symm; omega)]; exact a.plan
theorem flat_snoc {α : Type} (f : α → List Value) (l : List α) (x : α) : (l ++ [x]).flatMap f = l.flatMap f ++ f x := by simp
theorem NS.addNode (a : NS w wr p h) {x : Nd} {A2 : Option Addr} {c2 : Nat} (hg : wr.grownBy w2 (blk h.an)) (hown : Own w2 (w.heap.size + 3) 55 2 A2 (p.nodes.length + 1) c2 (p.nodes.flatMap ndCells ++ ndCells x)) :
    NS w (w2.setCell ⟨w.heap.size + 1 + 1, 3, none⟩ (.slice A2 (p.nodes.length + 1) c2)) { p with nodes := p.nodes ++ [x] } { h with an := A2, cn := c2 } := by
  obtain ⟨b1, b2, b3, b4, b5⟩ := a.base hg a.b.nodes.from_
  obtain ⟨⟨h1, h2, h3, h4, h5, h6, h7, h8, h9, h10, z1, z2, z3, z4⟩, h11⟩ := a
  refine ⟨NB.set (p := { p with nodes := p.nodes ++ [x] }) (h := { h with an := A2, cn := c2 }) ⟨b1, b2, b3, b4, ?_, h6.kept' hg (own_apart h6 h5 (by decide) z1), h7, h8.kept' hg (own_apart h8 h5 (by decide) z1), fun z hz => (h9 z hz).kept' hg (own_apart (h9 z hz) h5 (by decide) z1), h10.kept' hg (own_apart h10 h5 (by decide) z1), ?_, z2, z3, z4⟩ 3 _, ?_⟩
  · rw [flat_snoc]; simpa using hown
  · intro e; have := hown.2.1; simp at e; omega
  · rw [heap_setCell_same _ _ _ _ _ _ b5]; simp [netCells]
theorem NS.addLink (a : NS w wr p h) {x : Lk} {A2 : Option Addr} {c2 : Nat} (hg : wr.grownBy w2 (blk h.al)) (hown : Own w2 (w.heap.size + 3) 58 3 A2 (p.links.length + 1) c2 (p.links.flatMap lkCells ++ lkCells x)) :
    NS w (w2.setCell ⟨w.heap.size + 1 + 1, 4, none⟩ (.slice A2 (p.links.length + 1) c2)) { p with links := p.links ++ [x] } { h with al := A2, cl := c2 } := by
  obtain ⟨b1, b2, b3, b4, b5⟩ := a.base hg a.b.links.from_
  obtain ⟨⟨h1, h2, h3, h4, h5, h6, h7, h8, h9, h10, z1, z2, z3, z4⟩, h11⟩ := a
  refine ⟨NB.set (p := { p with links := p.links ++ [x] }) (h := { h with al := A2, cl := c2 }) ⟨b1, b2, b3, b4, h5.kept' hg (own_apart h5 h6 (by decide) z2), ?_, h7, h8.kept' hg (own_apart h8 h6 (by decide) z2), fun z hz => (h9 z hz).kept' hg (own_apart (h9 z hz) h6 (by decide) z2), h10.kept' hg (own_apart h10 h6 (by decide) z2), z1, ?_, z3, z4⟩ 4 _, ?_⟩
  · rw [flat_snoc]; simpa using hown
  · intro e; have := hown.2.1; simp at e; omega
  · rw [heap_setCell_same _ _ _ _ _ _ b5]; simp [netCells]
theorem NS.addCheck (a : NS w wr p h) {x : Ck} {A2 : Option Addr} {c2 : Nat} (hg : wr.grownBy w2 (blk h.ac)) (hown : Own w2 (w.heap.size + 3) 62 5 A2 (p.checks.length + 1) c2 (p.checks.flatMap ckCells ++ ckCells x)) :
    NS w (w2.setCell ⟨w.heap.size + 1 + 1, 6, none⟩ (.slice A2 (p.checks.length + 1) c2)) { p with checks := p.checks ++ [x] } { h with ac := A2, cc := c2 } := by
  obtain ⟨b1, b2, b3, b4, b5⟩ := a.base hg a.b.checks.from_
  obtain ⟨⟨h1, h2, h3, h4, h5, h6, h7, h8, h9, h10, z1, z2, z3, z4⟩, h11⟩ := a
  refine ⟨NB.set (p := { p with checks := p.checks ++ [x] }) (h := { h with ac := A2, cc := c2 }) ⟨b1, b2, b3, b4, h5.kept' hg (own_apart h5 h10 (by decide) z4), h6.kept' hg (own_apart h6 h10 (by decide) z4), h7, h8.kept' hg (own_apart h8 h10 (by decide) z4), fun z hz => (h9 z hz).kept' hg (own_apart (h9 z hz) h10 (by decide) z4), ?_, z1, z2, z3, ?_⟩ 6 _, ?_⟩
  · rw [flat_snoc]; simpa using hown
  · intro e; have := hown.2.1; simp at e; omega
  · rw [heap_setCell_same _ _ _ _ _ _ b5]; simp [netCells]
theorem NS.addDest (a : NS w wr p h) {x : Ds} {o : Option Addr × Nat} {A2 : Option Addr} {c2 : Nat} (ho : Own wr (w.heap.size + 3) 3 1 o.1 x.origins.length o.2 (ints x.origins)) (hg : wr.grownBy w2 (blk h.ad))
    (hown : Own w2 (w.heap.size + 3) 60 2 A2 (p.dests.length + 1) c2 ((p.dests.zip h.dv).flatMap dsCells ++ dsCells (x, o))) :
    NS w (w2.setCell ⟨w.heap.size + 1 + 1, 5, none⟩ (.slice A2 (p.dests.length + 1) c2)) { p with dests := p.dests ++ [x] } { h with ad := A2, cd := c2, dv := h.dv ++ [o] } := by
  obtain ⟨b1, b2, b3, b4, b5⟩ := a.base hg a.b.dests.from_
  obtain ⟨⟨h1, h2, h3, h4, h5, h6, h7, h8, h9, h10, z1, z2, z3, z4⟩, h11⟩ := a
  have hz : (p.dests ++ [x]).zip (h.dv ++ [o]) = p.dests.zip h.dv ++ [(x, o)] := by rw [List.zip_append h7.symm]; rfl
  refine ⟨NB.set (p := { p with dests := p.dests ++ [x] }) (h := { h with ad := A2, cd := c2, dv := h.dv ++ [o] }) ⟨b1, b2, b3, b4, h5.kept' hg (own_apart h5 h8 (by decide) z3), h6.kept' hg (own_apart h6 h8 (by decide) z3), by simp [h7], ?_, ?_, h10.kept' hg (own_apart h10 h8 (by decide) z3), z1, z2, ?_, z4⟩ 5 _, ?_⟩
  · rw [hz, flat_snoc]; simpa using hown
  · intro z hzm
    rw [hz] at hzm
    rcases List.mem_append.1 hzm with hzm | hzm
    · exact (h9 z hzm).kept' hg (own_apart (h9 z hzm) h8 (by decide) z3)
    · simp at hzm; subst hzm
      exact ho.kept' hg (own_apart ho h8 (by decide) z3)
  · intro e; have := hown.2.1; simp at e; omega
  · rw [heap_setCell_same _ _ _ _ _ _ b5]; simp [netCells]
/-- As it reads. -/
theorem NS.net (a : NS w wr p h) : NetR wr wr.heap.size p h :=
  ⟨a.b.nodes.rd, a.b.links.rd, a.b.dlen, a.b.dests.rd, fun z hz => (a.b.origins z hz).rd, a.b.checks.rd⟩
end
end

section
theorem Tryz.info_nd : (Tryz.prog.info? 55).map (fun i => (i.zero, i.size, i.bytes)) = some (some (.agg #[.string ⟨#[]⟩, .int .i64 0]), 2, 24) := by kernel_rfl
theorem Tryz.info_lk : (Tryz.prog.info? 58).map (fun i => (i.zero, i.size, i.bytes)) = some (some (.agg #[.int .i64 0, .int .i64 0, .int .i64 0]), 3, 24) := by kernel_rfl
theorem Tryz.info_ds : (Tryz.prog.info? 60).map (fun i => (i.zero, i.size, i.bytes)) = some (some (.agg #[.string ⟨#[]⟩, .slice none 0 0]), 2, 40) := by kernel_rfl
theorem Tryz.info_ck : (Tryz.prog.info? 62).map (fun i => (i.zero, i.size, i.bytes)) = some (some (.agg #[.int .i64 0, .int .i64 0, .int .i64 0, .int .i64 0, .int .i64 0]), 5, 40) := by kernel_rfl

def letters : List ByteArray := [⟨#[97]⟩, ⟨#[98]⟩, ⟨#[99]⟩, ⟨#[100]⟩, ⟨#[101]⟩, ⟨#[102]⟩, ⟨#[103]⟩]
def head0 (p : Net) : Prop := p.k = 0 ∧ ((p.proto = 1 ∧ p.cap = 0) ∨ (p.proto = 2 ∧ 1 ≤ p.cap ∧ p.cap ≤ 6))
def NodesOk (p : Net) (k : Nat) : Prop := p.nodes.length = k ∧ p.nodes.map (·.name) = letters.take k ∧ ∀ x ∈ p.nodes, 1 ≤ x.as_ ∧ x.as_ ≤ 16

theorem NodesOk.add {p : Net} {k : Nat} {nm : ByteArray} {x : Int} (h : NodesOk p k) (hn : letters[k]? = some nm) (h1 : 1 ≤ x) (h2 : x ≤ 16) : NodesOk { p with nodes := p.nodes ++ [⟨nm, x⟩] } (k + 1) := by
  obtain ⟨a, b, c⟩ := h
  refine ⟨by simp [a], ?_, ?_⟩
  · rw [List.map_append, b, List.take_add_one, hn]; rfl
  · intro y hy
    rcases List.mem_append.1 hy with hy | hy
    · exact c y hy
    · simp at hy; subst hy; exact ⟨h1, h2⟩
/-- The array of pairs that are used. -/
def boolArr (f : Nat → Bool) : Array Value := ((List.range 49).map fun i => Value.bool (f i)).toArray
theorem Tryz.size_used : (Tryz.prog.info? 56).map (·.size) = some 49 := by kernel_rfl
theorem boolArr_size (f : Nat → Bool) : (boolArr f).size = 49 := by simp [boolArr]
theorem boolArr_one (f : Nat → Bool) : (boolArr f).all (·.oneCell') = true := by simp [boolArr, Value.oneCell']
theorem boolArr_at (f : Nat → Bool) {i : Nat} (h : i < 49) : (boolArr f)[i]? = some (.bool (f i)) := by simp [boolArr, h]
theorem boolArr_set (f : Nat → Bool) {m : Nat} (x : Bool) : (boolArr f).setIfInBounds m (.bool x) = boolArr (fun v => if v = m then x else f v) := by
  apply Array.ext_getElem?
  intro i
  rw [Array.getElem?_setIfInBounds]
  by_cases hi : i < 49
  · rw [boolArr_at _ hi, boolArr_at _ hi]
    by_cases e : m = i
    · subst e; simp [boolArr, hi]
    · have e' : i ≠ m := fun h => e h.symm
      simp [e, e']
  · rw [Array.getElem?_eq_none (by rw [boolArr_size]; omega), Array.getElem?_eq_none (by rw [boolArr_size]; omega)]
    split <;> simp_all [boolArr]
/-- .. and the array lies in a block of its own. -/
structure UsedW (w wr : World) (p : Net) (h : Hd) (U : Nat) (f : Nat → Bool) : Prop where
  ns : NS w wr p h
  far : w.heap.size + 3 ≤ U
  used : wr.heap[U]? = some (.cells (boolArr f) 56 (0, 0))
theorem setRow_self {w : World} {g : Nat} {cs : Array Value} {e : TypeId} (h : w.heap[g]? = some (.cells cs e (0, 0))) : ∀ k : Nat, (w.setRow g cs).heap[k]? = w.heap[k]? := by
  intro k
  by_cases e : k = g
  · subst e; rw [setRow_heap _ _ _ _ _ _ h, h]
  · exact setRow_other _ _ _ _ e
theorem NS.setRow_self {w wr : World} {p : Net} {h : Hd} (a : NS w wr p h) {g : Nat} {cs : Array Value} {e : TypeId} (hh : wr.heap[g]? = some (.cells cs e (0, 0))) : NS w (wr.setRow g cs) p h := by
  have hg : wr.grownBy (wr.setRow g cs) none := ⟨rfl, rfl, rfl, by simp, fun i _ _ => YtakolnmoieiicaaGreat.setRow_self hh i⟩
  exact a.next (hg.but _) (a.b.src.kept hg (by omega) (by have := a.b.size; omega) (by simp))
theorem NS.alloc0 {w wr : World} {p : Net} {h : Hd} (a : NS w wr p h) (o : Obj) : NS w (wr.alloc o) p h :=
  a.next (World.grownBy_alloc wr o _) (a.b.src.kept (World.grownBy_alloc wr o none) (by omega) (by have := a.b.size; omega) (by simp))
theorem UsedW.begin {w wr : World} {p : Net} {h : Hd} (a : NS w wr p h) : UsedW w ((wr.alloc (.cells (boolArr fun _ => false) 56)).setRow wr.heap.size (boolArr fun _ => false)) p h wr.heap.size (fun _ => false) := by
  have hh := heap_alloc_new wr (.cells (boolArr fun _ => false) 56)
  exact ⟨(a.alloc0 _).setRow_self hh, a.b.size, by rw [setRow_heap _ _ _ _ _ _ hh]⟩
theorem UsedW.next {w wr w' : World} {p : Net} {h : Hd} {U : Nat} {f : Nat → Bool} (a : UsedW w wr p h U f) (b : NS w w' p h) (hg : wr.grownBy w' (some (w.heap.size + 1))) : UsedW w w' p h U f :=
  ⟨b, a.far, by rw [hg.block U (lt_heap a.used) (by have := a.far; simp; omega)]; exact a.used⟩
theorem UsedW.drew {w wr : World} {p : Net} {h : Hd} {U : Nat} {f : Nat → Bool} (a : UsedW w wr p h U f) : UsedW w wr.drew p h U f :=
  ⟨a.ns.next ⟨rfl, rfl, rfl, Nat.le_refl _, fun _ _ _ => rfl⟩ a.ns.b.src, a.far, a.used⟩
theorem UsedW.alloc {w wr : World} {p : Net} {h : Hd} {U : Nat} {f : Nat → Bool} (a : UsedW w wr p h U f) (o : Obj) : UsedW w (wr.alloc o) p h U f :=
  ⟨a.ns.alloc0 o, a.far, (Below.heap_alloc _ _ _ (lt_heap a.used)).trans a.used⟩
theorem UsedW.addLink {w wr w2 : World} {p : Net} {h : Hd} {U : Nat} {f : Nat → Bool} (a : UsedW w wr p h U f) {x : Lk} {A2 : Option Addr} {c2 : Nat} (hg : wr.grownBy w2 (blk h.al)) (hown : Own w2 (w.heap.size + 3) 58 3 A2 (p.links.length + 1) c2 (p.links.flatMap lkCells ++ lkCells x)) :
    UsedW w (w2.setCell ⟨w.heap.size + 1 + 1, 4, none⟩ (.slice A2 (p.links.length + 1) c2)) { p with links := p.links ++ [x] } { h with al := A2, cl := c2 } U f := by
  refine ⟨a.ns.addLink hg hown, a.far, ?_⟩
  rw [Below.heap_setCell _ _ _ _ (by have := a.far; simp; omega), hg.block U (lt_heap a.used) ?_]
  · exact a.used
  · intro e
    by_cases hc : h.cl = 0
    · rw [a.ns.b.zl hc] at e; simp [blk] at e
    · obtain ⟨g, off, cur, e2, hh, _⟩ := a.ns.b.links.2.2.2.2.2 (by omega)
      rw [e2] at e
      simp [blk] at e
      subst e
      rw [a.used] at hh
      injection hh with hh
      injection hh with _ h2
      exact absurd h2 (by decide)
theorem UsedW.set {w wr : World} {p : Net} {h : Hd} {U : Nat} {f : Nat → Bool} (a : UsedW w wr p h U f) (i : Nat) : UsedW w (wr.setCell ⟨U, i, none⟩ (.bool true)) p h U (fun v => if v = i then true else f v) := by
  obtain ⟨⟨⟨h1, h2, h3, h4, h5, h6, h7, h8, h9, h10, z1, z2, z3, z4⟩, h11⟩, hf, hh⟩ := a
  obtain ⟨A, l, c, s1, s2, s3, s4⟩ := h3
  refine ⟨⟨⟨h1.setCell (by simp; omega) _, by simpa [World.setCell] using h2, ⟨A, l, c, (Below.heap_setCell _ _ _ _ (by simp; omega)).trans s1, s2, s3, s4.setCell (by simp; omega) _⟩, (Below.heap_setCell _ _ _ _ (by simp; omega)).trans h4,
    h5.setCell_type (p := ⟨U, i, none⟩) hh (by decide) _, h6.setCell_type (p := ⟨U, i, none⟩) hh (by decide) _, h7, h8.setCell_type (p := ⟨U, i, none⟩) hh (by decide) _, fun z hz => (h9 z hz).setCell_type (p := ⟨U, i, none⟩) hh (by decide) _, h10.setCell_type (p := ⟨U, i, none⟩) hh (by decide) _, z1, z2, z3, z4⟩, (Below.heap_setCell _ _ _ _ (by simp; omega)).trans h11⟩, hf, ?_⟩
  rw [heap_setCell_same _ _ _ _ _ _ hh, boolArr_set]
theorem UsedW.at_ {w wr : World} {p : Net} {h : Hd} {U : Nat} {f : Nat → Bool} (a : UsedW w wr p h U f) {i : Nat} (hi : i < 49) : wr.cell? ⟨U, i, none⟩ = some (.bool (f i)) := by
  rw [cell_of_row wr _ i _ _ _ a.used]; exact boolArr_at f hi
theorem UsedW.free {w wr : World} {p : Net} {h : Hd} {U : Nat} {f : Nat → Bool} (a : UsedW w wr p h U f) (i : Nat) : wr.frozen? ⟨U, i, none⟩ = false := frozen_of_row wr _ i _ _ a.used
/-- The links so far. -/
structure LinksOk (p : Net) (N j : Nat) (f : Nat → Bool) : Prop where
  len : p.links.length ≤ j
  each : ∀ x ∈ p.links, 0 ≤ x.a ∧ x.a < x.b ∧ x.b < N ∧ 1 ≤ x.cost ∧ x.cost ≤ 15
  pairs : (pairsOf p.links).Nodup
  used : ∀ x ∈ p.links, f (7 * x.a + x.b).toNat = true
theorem LinksOk.begin {p : Net} {N : Nat} {f : Nat → Bool} (h : p.links = []) : LinksOk p N 0 f := ⟨by simp [h], by simp [h], by simp [h, pairsOf], by simp [h]⟩
theorem LinksOk.skip {p : Net} {N j : Nat} {f : Nat → Bool} (h : LinksOk p N j f) : LinksOk p N (j + 1) f := ⟨by have := h.len; omega, h.each, h.pairs, h.used⟩
theorem LinksOk.add {p : Net} {N j a b : Nat} {c : Int} {f : Nat → Bool} (h : LinksOk p N j f) (hab : a < b) (hb : b < N) (h1 : 1 ≤ c) (h2 : c ≤ 15) (hf : f (7 * a + b) = false) :
    LinksOk { p with links := p.links ++ [⟨a, b, c⟩] } N (j + 1) (fun v => if v = 7 * a + b then true else f v) where
  len := by have := h.len; simp; omega
  each := by
    intro x hx
    rcases List.mem_append.1 hx with hx | hx
    · exact h.each x hx
    · simp at hx; subst hx; dsimp only; omega
  pairs := by
    show (List.map _ _).Nodup
    rw [List.map_append, List.nodup_append]
    refine ⟨h.pairs, by simp, ?_⟩
    rintro q hq r hr rfl
    simp at hr
    obtain ⟨x, hx, e⟩ := List.mem_map.1 hq
    rw [hr] at e
    simp at e
    have := h.used x hx
    rw [e.1, e.2, show (7 * (a : Int) + (b : Int)).toNat = 7 * a + b from by omega, hf] at this
    cases this
  used := by
    intro x hx
    rcases List.mem_append.1 hx with hx | hx
    · rw [h.used x hx]; simp
    · simp at hx; subst hx
      rw [if_pos (by dsimp only; omega)]
theorem keep_alloc {w : World} {a : Addr} {v : Value} (h : w.cell? a = some v) (o : Obj) : (w.alloc o).cell? a = some v := by
  by_cases hb : a.block < w.heap.size
  · rw [World.cell?_alloc_lt w o _ hb]; exact h
  · simp [World.cell?, Array.getElem?_eq_none (show w.heap.size ≤ a.block by omega)] at h
theorem keep_alloc_drew {w : World} {a : Addr} {v : Value} (h : w.cell? a = some v) (o : Obj) : (w.alloc o).drew.cell? a = some v := keep_alloc h o
theorem NS.alloc {w wr : World} {p : Net} {h : Hd} (a : NS w wr p h) (o : Obj) : NS w (wr.alloc o) p h :=
  a.next (World.grownBy_alloc wr o _) (a.b.src.kept (World.grownBy_alloc wr o none) (by omega) (by have := a.b.size; omega) (by simp))
theorem NS.drew {w wr : World} {p : Net} {h : Hd} (a : NS w wr p h) : NS w wr.drew p h :=
  a.next ⟨rfl, rfl, rfl, Nat.le_refl _, fun _ _ _ => rfl⟩ a.b.src
/-- Behind an append the network's own cells may be written. -/
theorem NS.free2 {w wr w2 : World} {p : Net} {h : Hd} (a : NS w wr p h) {row : Option Nat} (hg : wr.grownBy w2 row) (hr : ∀ g, row = some g → w.heap.size + 3 ≤ g) (i : Nat) : w2.frozen? ⟨w.heap.size + 1 + 1, i, none⟩ = false :=
  frozen_of_row w2 _ i _ _ (a.base hg hr).2.2.2.2
theorem NS.cell2 {w wr w2 : World} {p : Net} {h : Hd} (a : NS w wr p h) {row : Option Nat} (hg : wr.grownBy w2 row) (hr : ∀ g, row = some g → w.heap.size + 3 ≤ g) (i : Nat) : w2.cell? ⟨w.heap.size + 1 + 1, i, none⟩ = (netCells p h)[i]? :=
  cell_of_row w2 _ i _ _ _ (a.base hg hr).2.2.2.2
/-- The next number, as the walk of Net sees it. -/
def NNext (w wr : World) (p : Net) (h : Hd) (n : Int) (e : Ending) (w' : World) : Prop := ∃ k : Int, e = .returned (.int .i64 k) ∧ 0 ≤ k ∧ k < n ∧ NS w w' p h ∧ wr.grownBy w' (some (w.heap.size + 1))
theorem nnext {w wr : World} {p : Net} {h : Hd} (a : NS w wr p h) (n : Int) (hn : 0 < n) (hn2 : n < 1000000) : Calls Tryz.prog 17 #[.pointer (some ⟨w.heap.size + 1, 0, none⟩), .int .i64 n] wr (NNext w wr p h n) :=
  (next_any w.heap.size (w.heap.size + 1) n wr a.b.src (by omega) hn hn2).mono fun e w' ⟨k, h1, h2, h3, h4, h5⟩ => ⟨k, h1, h2, h3, a.next h5 h4, h5⟩

/-! ### Destinations -/
def xys : List ByteArray := [⟨#[120]⟩, ⟨#[121]⟩]
def OrOk (l : List Int) (N : Nat) : Prop := (∃ o : Int, l = [o] ∧ 0 ≤ o ∧ o < N) ∨ ∃ o q : Int, l = [o, q] ∧ 0 ≤ o ∧ o < q ∧ q < N
structure DestsOk (p : Net) (N : Nat) : Prop where
  names : p.dests.map (·.name) = xys.take p.dests.length
  each : ∀ d ∈ p.dests, OrOk d.origins N
theorem DestsOk.begin {p : Net} {N : Nat} (h : p.dests = []) : DestsOk p N := ⟨by simp [h], by simp [h]⟩
theorem DestsOk.add {p : Net} {N : Nat} {nm : ByteArray} {os : List Int} (h : DestsOk p N) (hn : xys[p.dests.length]? = some nm) (ho : OrOk os N) : DestsOk { p with dests := p.dests ++ [⟨nm, os⟩] } N where
  names := by
    show List.map _ (p.dests ++ _) = List.take (p.dests ++ _).length xys
    rw [List.map_append, h.names, List.length_append, List.length_singleton, List.take_add_one, hn]; rfl
  each := by
    intro y hy
    rcases List.mem_append.1 hy with hy | hy
    · exact h.each y hy
    · simp at hy; subst hy; exact ho
section
variable {w wr w' w2 : World} {p : Net} {h : Hd}
/-- A cell of a block of another's is written. -/
theorem NS.setFar (a : NS w wr p h) {g : Nat} {cs : Array Value} {t : TypeId} {fr : Nat × Nat} (hh : wr.heap[g]? = some (.cells cs t fr)) (hf : w.heap.size + 3 ≤ g) (hn : t ≠ 55) (hl : t ≠ 58) (hd : t = 60 → blk h.ad ≠ some g) (hi : t ≠ 3)
    (hc : t = 62 → blk h.ac ≠ some g) (i : Nat) (v : Value) : NS w (wr.setCell ⟨g, i, none⟩ v) p h := by
  obtain ⟨⟨h1, h2, h3, h4, h5, h6, h7, h8, h9, h10, z1, z2, z3, z4⟩, h11⟩ := a
  obtain ⟨A, l, c, s1, s2, s3, s4⟩ := h3
  refine ⟨⟨h1.setCell (by simp; omega) _, by simpa [World.setCell] using h2, ⟨A, l, c, (Below.heap_setCell _ _ _ _ (by simp; omega)).trans s1, s2, s3, s4.setCell (by simp; omega) _⟩, (Below.heap_setCell _ _ _ _ (by simp; omega)).trans h4,
    h5.setCell_type (p := ⟨g, i, none⟩) hh hn _, h6.setCell_type (p := ⟨g, i, none⟩) hh hl _, h7, ?_, fun z hz => (h9 z hz).setCell_type (p := ⟨g, i, none⟩) hh hi _, ?_, z1, z2, z3, z4⟩, (Below.heap_setCell _ _ _ _ (by simp; omega)).trans h11⟩
  · by_cases e : t = 60
    · exact h8.setCell_far (p := ⟨g, i, none⟩) (fun g' hg' e' => hd e (by rw [hg', e'])) _
    · exact h8.setCell_type (p := ⟨g, i, none⟩) hh e _
  · by_cases e : t = 62
    · exact h10.setCell_far (p := ⟨g, i, none⟩) (fun g' hg' e' => hc e (by rw [hg', e'])) _
    · exact h10.setCell_type (p := ⟨g, i, none⟩) hh e _
/-- Numbers are appended to a row of the call's own. -/
theorem NS.grownInt (a : NS w wr p h) {A : Option Addr} {n c : Nat} {xs : List Value} (own : Own wr (w.heap.size + 3) 3 1 A n c xs) (zA : c = 0 → A = none) (lone : ∀ z ∈ p.dests.zip h.dv, 0 < z.2.2 → blk z.2.1 ≠ blk A) (hg : wr.grownBy w' (blk A)) : NS w w' p h := by
  obtain ⟨b1, b2, b3, b4, b5⟩ := a.base hg own.from_
  obtain ⟨⟨h1, h2, h3, h4, h5, h6, h7, h8, h9, h10, z1, z2, z3, z4⟩, h11⟩ := a
  exact ⟨⟨b1, b2, b3, b4, h5.kept' hg (own_apart h5 own (by decide) zA), h6.kept' hg (own_apart h6 own (by decide) zA), h7, h8.kept' hg (own_apart h8 own (by decide) zA), fun z hz => (h9 z hz).kept' hg (lone z hz), h10.kept' hg (own_apart h10 own (by decide) zA), z1, z2, z3, z4⟩, b5⟩
/-- A destination that is being made. -/
structure DW (w wr : World) (p : Net) (h : Hd) (D : Nat) (nm : ByteArray) (os : List Int) (A : Option Addr) (c : Nat) : Prop where
  ns : NS w wr p h
  far : w.heap.size + 3 ≤ D
  d : wr.heap[D]? = some (.cells #[.string nm, .slice A os.length c] 60 (0, 0))
  own : Own wr (w.heap.size + 3) 3 1 A os.length c (ints os)
  zA : c = 0 → A = none
  lone : ∀ z ∈ p.dests.zip h.dv, 0 < z.2.2 → blk z.2.1 ≠ blk A
  apart : blk h.ad ≠ some D
theorem DW.begin (a : NS w wr p h) (o : Obj) (nm : ByteArray) : DW w ((wr.alloc o).alloc (.cells #[.string nm, .slice none 0 0] 60)) p h (wr.heap.size + 1) nm [] none 0 where
  ns := (a.alloc0 _).alloc0 _
  far := by have := a.b.size; omega
  d := by have := heap_alloc_new (wr.alloc o) (.cells #[.string nm, .slice none 0 0] 60); simpa using this
  own := Own.nil _ _ _ _
  zA := fun _ => rfl
  lone := by
    intro z hz hc e
    obtain ⟨g, off, cur, e2, hh, _⟩ := (a.b.origins z hz).2.2.2.2.2 hc
    rw [e2] at e; simp [blk] at e
  apart := by
    intro e
    by_cases hc : h.cd = 0
    · rw [a.b.zd hc] at e; simp [blk] at e
    · obtain ⟨g, off, cur, e2, hh, _⟩ := a.b.dests.2.2.2.2.2 (by omega)
      rw [e2] at e; simp [blk] at e
      have := lt_heap hh
      omega
section
variable {D : Nat} {nm : ByteArray} {os : List Int} {A : Option Addr} {c : Nat}
theorem DW.next (a : DW w wr p h D nm os A c) (b : NS w w' p h) (hg : wr.grownBy w' (some (w.heap.size + 1))) : DW w w' p h D nm os A c :=
  ⟨b, a.far, by rw [hg.block D (lt_heap a.d) (by have := a.far; simp; omega)]; exact a.d, a.own.far (by omega) hg, a.zA, a.lone, a.apart⟩
theorem DW.drew (a : DW w wr p h D nm os A c) : DW w wr.drew p h D nm os A c :=
  ⟨a.ns.next ⟨rfl, rfl, rfl, Nat.le_refl _, fun _ _ _ => rfl⟩ a.ns.b.src, a.far, a.d, a.own.drew, a.zA, a.lone, a.apart⟩
theorem DW.alloc (a : DW w wr p h D nm os A c) (o : Obj) : DW w (wr.alloc o) p h D nm os A c :=
  ⟨a.ns.alloc0 o, a.far, (Below.heap_alloc _ _ _ (lt_heap a.d)).trans a.d, a.own.alloc o, a.zA, a.lone, a.apart⟩
theorem DW.at0 (a : DW w wr p h D nm os A c) : wr.cell? ⟨D, 0, none⟩ = some (.string nm) := by rw [cell_of_row wr _ 0 _ _ _ a.d]; rfl
theorem DW.at1 (a : DW w wr p h D nm os A c) : wr.cell? ⟨D, 1, none⟩ = some (.slice A os.length c) := by rw [cell_of_row wr _ 1 _ _ _ a.d]; rfl
theorem DW.free (a : DW w wr p h D nm os A c) (i : Nat) : wr.frozen? ⟨D, i, none⟩ = false := frozen_of_row wr _ i _ _ a.d
theorem DW.lt (a : DW w wr p h D nm os A c) : D < wr.heap.size := lt_heap a.d
theorem DW.grownD (a : DW w wr p h D nm os A c) (hg : wr.grownBy w2 (blk A)) : w2.heap[D]? = some (.cells #[.string nm, .slice A os.length c] 60 (0, 0)) := by
  rw [hg.block D (lt_heap a.d) ?_]
  · exact a.d
  · intro e
    by_cases hc : c = 0
    · rw [a.zA hc] at e; simp [blk] at e
    · obtain ⟨g, off, cur, e2, hh, _⟩ := a.own.2.2.2.2.2 (by omega)
      rw [e2] at e; simp [blk] at e
      subst e
      rw [a.d] at hh
      injection hh with hh
      injection hh with _ h2
      exact absurd h2 (by decide)
/-- Behind an append to its origins, the store of what comes ahead. -/
theorem DW.cell2 (a : DW w wr p h D nm os A c) (hg : wr.grownBy w2 (blk A)) : w2.cell? ⟨D, 1, none⟩ = some (.slice A os.length c) := by rw [cell_of_row w2 _ 1 _ _ _ (a.grownD hg)]; rfl
theorem DW.free2 (a : DW w wr p h D nm os A c) (hg : wr.grownBy w2 (blk A)) (i : Nat) : w2.frozen? ⟨D, i, none⟩ = false := frozen_of_row w2 _ i _ _ (a.grownD hg)
theorem DW.app (a : DW w wr p h D nm os A c) {x : Int} {A2 : Option Addr} {n c2 : Nat} (hn : n = os.length + 1) (hg : wr.grownBy w2 (blk A)) (hblk : A2 = A ∨ blk A2 = some wr.heap.size) (hown : Own w2 (w.heap.size + 3) 3 1 A2 n c2 (ints os ++ [.int .i64 x])) :
    DW w (w2.setCell ⟨D, 1, none⟩ (.slice A2 n c2)) p h D nm (os ++ [x]) A2 c2 := by
  subst hn
  have hd2 := a.grownD hg
  have hns := a.ns.grownInt a.own a.zA a.lone hg
  refine ⟨hns.setFar hd2 a.far (by decide) (by decide) (fun _ => a.apart) (by decide) (fun e => absurd e (by decide)) _ _, a.far, ?_, ?_, ?_, ?_, a.apart⟩
  · rw [heap_setCell_same _ _ _ _ _ _ hd2]; simp
  · have := hown.setCell_type (p := ⟨D, 1, none⟩) hd2 (by decide) (.slice A2 (os.length + 1) c2)
    simpa [ints] using this
  · intro e; have := hown.2.1; omega
  · intro z hz hc e
    rcases hblk with hb | hb
    · rw [hb] at e; exact a.lone z hz hc e
    · rw [hb] at e
      obtain ⟨g, off, cur, e2, hh, _⟩ := (a.ns.b.origins z hz).2.2.2.2.2 hc
      rw [e2] at e; simp [blk] at e
      have := lt_heap hh
      omega
end
/-! ### Checks -/
/-- A check that is being made. -/
structure CW (w wr : World) (p : Net) (h : Hd) (C : Nat) (x : Ck) : Prop where
  ns : NS w wr p h
  far : w.heap.size + 3 ≤ C
  c : wr.heap[C]? = some (.cells (ckCells x).toArray 62 (0, 0))
  apart : blk h.ac ≠ some C
theorem CW.begin (a : NS w wr p h) (x : Ck) : CW w (wr.alloc (.cells (ckCells x).toArray 62)) p h wr.heap.size x where
  ns := a.alloc0 _
  far := a.b.size
  c := heap_alloc_new _ _
  apart := by
    intro e
    by_cases hc : h.cc = 0
    · rw [a.b.zc hc] at e; simp [blk] at e
    · obtain ⟨g, off, cur, e2, hh, _⟩ := a.b.checks.2.2.2.2.2 (by omega)
      rw [e2] at e; simp [blk] at e
      have := lt_heap hh
      omega
section
variable {C : Nat} {x x' : Ck}
theorem CW.next (a : CW w wr p h C x) (b : NS w w' p h) (hg : wr.grownBy w' (some (w.heap.size + 1))) : CW w w' p h C x :=
  ⟨b, a.far, by rw [hg.block C (lt_heap a.c) (by have := a.far; simp; omega)]; exact a.c, a.apart⟩
theorem CW.set (a : CW w wr p h C x) (i : Nat) (v : Value) (hx : (ckCells x').toArray = (ckCells x).toArray.setIfInBounds i v) : CW w (wr.setCell ⟨C, i, none⟩ v) p h C x' :=
  ⟨a.ns.setFar a.c a.far (by decide) (by decide) (fun e => absurd e (by decide)) (by decide) (fun _ => a.apart) _ _, a.far, by rw [heap_setCell_same _ _ _ _ _ _ a.c, hx], a.apart⟩
theorem CW.all (a : CW w wr p h C x) : wr.cell? ⟨C, 0, none⟩ = some (.int .i64 x.kind) ∧ wr.cell? ⟨C, 1, none⟩ = some (.int .i64 x.node) ∧ wr.cell? ⟨C, 2, none⟩ = some (.int .i64 x.dest) ∧ wr.cell? ⟨C, 3, none⟩ = some (.int .i64 x.limit) ∧ wr.cell? ⟨C, 4, none⟩ = some (.int .i64 x.other) :=
  ⟨cell_of_row wr _ 0 _ _ _ a.c, cell_of_row wr _ 1 _ _ _ a.c, cell_of_row wr _ 2 _ _ _ a.c, cell_of_row wr _ 3 _ _ _ a.c, cell_of_row wr _ 4 _ _ _ a.c⟩
theorem CW.free (a : CW w wr p h C x) (i : Nat) : wr.frozen? ⟨C, i, none⟩ = false := frozen_of_row wr _ i _ _ a.c
end
end
theorem wrap_small {k : Int} (h0 : 0 ≤ k) (h1 : k < 4) : IntKind.i64.wrap (1 + k) = 1 + k := IntWalk.i64_in _ (by omega)
theorem keep_set5 {w : World} {B C i : Nat} {v v0 v1 v2 v3 v4 : Value} (h : w.cell? ⟨B, i, none⟩ = some v) (hne : B ≠ C) :
    (((((w.setCell ⟨C, 0, none⟩ v0).setCell ⟨C, 1, none⟩ v1).setCell ⟨C, 2, none⟩ v2).setCell ⟨C, 3, none⟩ v3).setCell ⟨C, 4, none⟩ v4).cell? ⟨B, i, none⟩ = some v := by
  have key : ∀ (wx : World) (j : Nat) (u : Value), wx.cell? ⟨B, i, none⟩ = some v → (wx.setCell ⟨C, j, none⟩ u).cell? ⟨B, i, none⟩ = some v := fun wx j u hx => by
    rw [World.cell?_setCell_other wx ⟨C, j, none⟩ ⟨B, i, none⟩ u (fun e => by injection e with e1; first | exact hne e1 | exact hne e1.symm)]; exact hx
  exact key _ _ _ (key _ _ _ (key _ _ _ (key _ _ _ (key _ _ _ h))))
theorem CW.drew {w wr : World} {p : Net} {h : Hd} {C : Nat} {x : Ck} (a : CW w wr p h C x) : CW w wr.drew p h C x :=
  ⟨a.ns.next ⟨rfl, rfl, rfl, Nat.le_refl _, fun _ _ _ => rfl⟩ a.ns.b.src, a.far, a.c, a.apart⟩
/-- The check is put where it lies. -/
theorem CW.put {w wr : World} {p : Net} {h : Hd} {C : Nat} {x0 : Ck} (a : CW w wr p h C x0) (x : Ck) :
    CW w (((((wr.setCell ⟨C, 0, none⟩ (.int .i64 x.kind)).setCell ⟨C, 1, none⟩ (.int .i64 x.node)).setCell ⟨C, 2, none⟩ (.int .i64 x.dest)).setCell ⟨C, 3, none⟩ (.int .i64 x.limit)).setCell ⟨C, 4, none⟩ (.int .i64 x.other)) p h C x := by
  have a1 := a.set (x' := { x0 with kind := x.kind }) 0 (.int .i64 x.kind) rfl
  have a2 := a1.set (x' := { x0 with kind := x.kind, node := x.node }) 1 (.int .i64 x.node) rfl
  have a3 := a2.set (x' := { x0 with kind := x.kind, node := x.node, dest := x.dest }) 2 (.int .i64 x.dest) rfl
  have a4 := a3.set (x' := { x0 with kind := x.kind, node := x.node, dest := x.dest, limit := x.limit }) 3 (.int .i64 x.limit) rfl
  exact a4.set (x' := x) 4 (.int .i64 x.other) rfl
/-! ### The whole -/
theorem Rd.take {w : World} {B k : Nat} {A : Option Addr} {l : List Int} (h : Rd w B 1 A l.length (ints l)) (hk : k ≤ l.length) : Rd w B 1 A k (ints (l.take k)) := by
  refine ⟨by simp [ints]; omega, fun hn => ?_⟩
  obtain ⟨b, o, e, hb, hc⟩ := h.2 (by omega)
  refine ⟨b, o, e, hb, fun j u hu => hc j u ?_⟩
  simp only [ints, List.getElem?_map, List.getElem?_take] at hu ⊢
  split at hu
  · exact hu
  · simp at hu
/-- The start of Net: the answer's block, the source, the network. -/
theorem NS.begin {w : World} {A : Option Addr} {l : List Int} {c : Nat} (hlc : l.length ≤ c) (hr : Rd w w.heap.size 1 A l.length (ints l)) (hi : ∀ x ∈ l, In64 x) :
    NS w (((w.alloc (.cells zeroCells 30)).alloc (.cells #[.slice A l.length c] 51)).alloc (.cells #[.int .i64 1, .int .i64 0, .int .i64 0, .slice none 0 0, .slice none 0 0, .slice none 0 0, .slice none 0 0] 30)) ⟨1, 0, 0, [], [], [], []⟩ ⟨none, 0, none, 0, none, 0, none, 0, []⟩ where
  b := {
    below := (((Below.refl _ _).alloc (Nat.le_refl _) _).alloc (by simp) _).alloc (by simp; omega) _
    size := by simp
    src := by
      refine ⟨A, l, c, ?_, hlc, hi, ((hr.alloc (Nat.le_refl _) _).alloc (by simp) _).alloc (by simp; omega) _⟩
      have h1 := heap_alloc_new (w.alloc (.cells zeroCells 30)) (.cells #[.slice A l.length c] 51)
      exact (Below.heap_alloc _ _ _ (by simp)).trans (by simpa using h1)
    res := (Below.heap_alloc _ _ _ (by simp; omega)).trans ((Below.heap_alloc _ _ _ (by simp)).trans (heap_alloc_new _ _))
    nodes := Own.nil _ _ _ _
    links := Own.nil _ _ _ _
    dlen := rfl
    dests := Own.nil _ _ _ _
    origins := by intro z hz; cases hz
    checks := Own.nil _ _ _ _
    zn := fun _ => rfl
    zl := fun _ => rfl
    zd := fun _ => rfl
    zc := fun _ => rfl }
  plan := by
    have h1 := heap_alloc_new ((w.alloc (.cells zeroCells 30)).alloc (.cells #[.slice A l.length c] 51)) (.cells #[.int .i64 1, .int .i64 0, .int .i64 0, .slice none 0 0, .slice none 0 0, .slice none 0 0, .slice none 0 0] 30)
    simpa [netCells] using h1
/-- What is known of a network behind its links. -/
structure Mid (p : Net) (N : Nat) : Prop where
  nodes : NodesOk p N
  l9 : p.links.length ≤ 9
  links : ∀ x ∈ p.links, 0 ≤ x.a ∧ x.a < x.b ∧ x.b < N ∧ 1 ≤ x.cost ∧ x.cost ≤ 15
  pairs : (pairsOf p.links).Nodup
  head : (p.proto = 1 ∧ p.cap = 0) ∨ (p.proto = 2 ∧ 1 ≤ p.cap ∧ p.cap ≤ 6)
  k : 0 ≤ p.k ∧ p.k ≤ 3 ∧ p.k ≤ p.links.length
theorem Mid.same {p p' : Net} {N : Nat} (a : Mid p N) (e1 : p'.nodes = p.nodes) (e2 : p'.links = p.links) (e3 : p'.proto = p.proto) (e4 : p'.cap = p.cap) (e5 : p'.k = p.k) : Mid p' N := by
  cases p; cases p'
  simp only at e1 e2 e3 e4 e5
  subst e1 e2 e3 e4 e5
  exact ⟨a.nodes, a.l9, a.links, a.pairs, a.head, a.k⟩
/-- What Net hands back may be: -/
structure NetOk (p : Net) : Prop where
  head : (p.proto = 1 ∧ p.cap = 0) ∨ (p.proto = 2 ∧ 1 ≤ p.cap ∧ p.cap ≤ 6)
  k : 0 ≤ p.k ∧ p.k ≤ 3 ∧ p.k ≤ p.links.length
  n : 2 ≤ p.nodes.length ∧ p.nodes.length ≤ 7
  nodes : NodesOk p p.nodes.length
  l9 : p.links.length ≤ 9
  links : ∀ x ∈ p.links, 0 ≤ x.a ∧ x.a < x.b ∧ x.b < p.nodes.length ∧ 1 ≤ x.cost ∧ x.cost ≤ 15
  pairs : (pairsOf p.links).Nodup
  d12 : 1 ≤ p.dests.length ∧ p.dests.length ≤ 2
  dests : DestsOk p p.nodes.length
  c6 : p.checks.length ≤ 6
  checks : ∀ c ∈ p.checks, checkB p c = true
theorem letters_ok : ∀ n < 8, ∀ m < 3, (letters.take n ++ xys.take m).any badName = false ∧ (letters.take n ++ xys.take m).Nodup := by decide +kernel
theorem OrOk.destB {x : Ds} {N : Nat} (h : OrOk x.origins N) : destB x N = true := by
  unfold YtakolnmoieiicaaGreat.destB
  rcases h with ⟨o, e, h1, h2⟩ | ⟨o, q, e, h1, h2, h3⟩
  · rw [e]
    simp [okAt, placeB]; omega
  · rw [e]
    simp [okAt, placeB, List.range_succ]; omega
theorem NetOk.good {p : Net} (a : NetOk p) : Good p where
  small := ⟨by have := a.n; omega, by have := a.l9; omega, by have := a.d12; omega, by have := a.c6; omega, fun d hd => by
    rcases a.dests.each d hd with ⟨o, e, _⟩ | ⟨o, q, e, _⟩ <;> rw [e] <;> simp⟩
  names := by
    unfold namesOf ndNames dsNames
    rw [a.nodes.2.1, a.dests.names]
    exact (letters_ok _ (by have := a.n; omega) _ (by have := a.d12; omega)).1
  right := by
    have hnames : namedB p = true := by
      unfold namedB namesOf ndNames dsNames
      rw [a.nodes.2.1, a.dests.names]
      obtain ⟨h1, h2⟩ := letters_ok _ (show p.nodes.length < 8 by have := a.n; omega) _ (show p.dests.length < 3 by have := a.d12; omega)
      rw [h1]; simp [h2]
    have h1 : routingB p = true := by
      unfold routingB withinB
      rcases a.head with ⟨e1, e2⟩ | ⟨e1, e2, e3⟩
      · simp [e1, e2]
      · simp [e1]; omega
    have h2 : withinB p.k 0 (min 4 (p.links.length : Int)) = true := by
      have := a.k
      unfold withinB; simp; omega
    have h3 : nodesB p = true := by
      unfold nodesB withinB
      have := a.n
      simp only [Bool.and_eq_true, decide_eq_true_eq, Bool.not_eq_true']
      refine ⟨by omega, ?_⟩
      rw [List.any_eq_false]
      intro x hx
      have := a.nodes.2.2 x hx
      simp [badNode, withinB]; omega
    have h4 : linksB p = true := by
      unfold linksB
      simp only [Bool.and_eq_true, decide_eq_true_eq, List.all_eq_true]
      refine ⟨fun x hx => ?_, by have := a.l9; omega, a.pairs⟩
      have := a.links x hx
      simp [lkB, placeB, withinB]; omega
    have h5 : p.dests.any (fun d => !destB d p.nodes.length) = false := by
      rw [List.any_eq_false]
      intro d hd
      simp [(a.dests.each d hd).destB]
    have h6 : p.checks.any (badCheck p) = false := by
      rw [List.any_eq_false]
      intro c hc
      simp [badCheck, a.checks c hc]
    unfold rightB
    rw [h1, h2, h3, h4, hnames, h5, h6]
    have := a.d12
    have := a.c6
    simp; omega
/-- .. and it lies in memory of the call's own. -/
structure NetOwn (w : World) (B : Nat) (p : Net) (h : Hd) : Prop where
  nodes : Own w B 55 2 h.an p.nodes.length h.cn (p.nodes.flatMap ndCells)
  links : Own w B 58 3 h.al p.links.length h.cl (p.links.flatMap lkCells)
  dlen : h.dv.length = p.dests.length
  dests : Own w B 60 2 h.ad p.dests.length h.cd ((p.dests.zip h.dv).flatMap dsCells)
  origins : ∀ z ∈ p.dests.zip h.dv, Own w B 3 1 z.2.1 z.1.origins.length z.2.2 (ints z.1.origins)
  checks : Own w B 62 5 h.ac p.checks.length h.cc (p.checks.flatMap ckCells)
  zn : h.cn = 0 → h.an = none
  zl : h.cl = 0 → h.al = none
  zd : h.cd = 0 → h.ad = none
  zc : h.cc = 0 → h.ac = none
theorem NetOwn.net {w : World} {B : Nat} {p : Net} {h : Hd} (a : NetOwn w B p h) : NetR w w.heap.size p h :=
  ⟨a.nodes.rd, a.links.rd, a.dlen, a.dests.rd, fun z hz => (a.origins z hz).rd, a.checks.rd⟩
theorem NB.own {w wr : World} {p : Net} {h : Hd} (a : NB w wr p h) : NetOwn wr w.heap.size p h :=
  ⟨a.nodes.more (by omega), a.links.more (by omega), a.dlen, a.dests.more (by omega), fun z hz => (a.origins z hz).more (by omega), a.checks.more (by omega), a.zn, a.zl, a.zd, a.zc⟩
/-- The network is put where the answer lies. -/
theorem NB.answer {w wr w' : World} {p : Net} {h : Hd} (a : NB w wr p h) (hg : wr.grownBy w' (some w.heap.size)) : NetOwn w' w.heap.size p h ∧ Below w.heap.size w w' := by
  have hf : ∀ {s n c : Nat} {e : TypeId} {A : Option Addr} {xs : List Value}, Own wr (w.heap.size + 3) e s A n c xs → Own w' w.heap.size e s A n c xs :=
    fun h => (h.far (by omega) hg).more (by omega)
  exact ⟨⟨hf a.nodes, hf a.links, a.dlen, hf a.dests, fun z hz => hf (a.origins z hz), hf a.checks, a.zn, a.zl, a.zd, a.zc⟩, a.below.grown hg (by have := a.size; omega) (fun g hg => by injection hg with hg; omega)⟩
def NetPost (w : World) (e : Ending) (w' : World) : Prop := ∃ p h, e = .returned (netV p h) ∧ NetOk p ∧ NetOwn w' w.heap.size p h ∧ Below w.heap.size w w'
end

section
/-- What follows where the ways meet, behind a name of ours. -/
def Meet (J K : Act → World → Prop) : Prop := ∀ a w, Met J a w → K a w
structure CkIn (p : Net) (x : Ck) : Prop where
  k1 : 1 ≤ x.kind
  k4 : x.kind ≤ 4
  n0 : 0 ≤ x.node
  n1 : x.node < p.nodes.length
  d0 : 0 ≤ x.dest
  d1 : x.dest < p.dests.length
/-- The check, its limit told. -/
def CkA (p : Net) (x : Ck) : Prop := CkIn p x ∧ 0 ≤ x.limit ∧ x.limit ≤ limitOf x ∧ x.other = 0
def CkB (p : Net) (x : Ck) : Prop := CkIn p x ∧ 0 ≤ x.limit ∧ x.limit ≤ limitOf x ∧ 0 ≤ x.other ∧ x.other < othersOf p x
theorem CkB.check {p : Net} {x : Ck} (h : CkB p x) : checkB p x = true := by
  obtain ⟨⟨h1, h2, h3, h4, h5, h6⟩, h7, h8, h9, h10⟩ := h
  unfold checkB kindB placeB withinB
  simp only [Bool.and_eq_true, Bool.or_eq_true, beq_iff_eq, decide_eq_true_eq]
  omega
theorem CkA.limit {p : Net} {x : Ck} {k : Int} (h : CkIn p x) (ho : x.other = 0) (hk : x.kind = 2) (h0 : 0 ≤ k) (h1 : k < 20) : CkA p { x with limit := k } :=
  ⟨⟨h.k1, h.k4, h.n0, h.n1, h.d0, h.d1⟩, h0, by unfold limitOf; rw [if_pos hk]; show k ≤ 65535; omega, ho⟩
theorem CkA.none {p : Net} {x : Ck} (h : CkIn p x) (ho : x.other = 0) (hl : x.limit = 0) : CkA p x :=
  ⟨h, by omega, by unfold limitOf; rw [hl]; split <;> omega, ho⟩
theorem CkB.other {p : Net} {x : Ck} {k : Int} (h : CkA p x) (hk : x.kind = 3 ∨ x.kind = 4) (h0 : 0 ≤ k) (h1 : k < p.nodes.length) : CkB p { x with other := k } := by
  obtain ⟨h, h2, h3, h4⟩ := h
  exact ⟨⟨h.k1, h.k4, h.n0, h.n1, h.d0, h.d1⟩, h2, h3, h0, by unfold othersOf; rw [if_pos hk]; exact h1⟩
theorem CkB.none {p : Net} {x : Ck} (h : CkA p x) (hk : ¬ (x.kind = 3 ∨ x.kind = 4)) : CkB p x := by
  obtain ⟨h, h2, h3, h4⟩ := h
  exact ⟨h, h2, h3, by omega, by unfold othersOf; rw [if_neg hk, h4]; omega⟩
theorem DestsOk.same {p p' : Net} {N : Nat} (a : DestsOk p N) (e : p'.dests = p.dests) : DestsOk p' N := ⟨by rw [e]; exact a.names, by rw [e]; exact a.each⟩
theorem checks_add {p : Net} {x : Ck} (h : ∀ c ∈ p.checks, checkB p c = true) (hx : checkB p x = true) : ∀ c ∈ p.checks ++ [x], checkB { p with checks := p.checks ++ [x] } c = true := by
  intro c hc
  rcases List.mem_append.1 hc with hc | hc
  · exact h c hc
  · simp at hc; subst hc; exact hx
theorem NetOk.of {p : Net} {N : Nat} (hN : 2 ≤ N ∧ N ≤ 7) (hM : Mid p N) (hD : DestsOk p N) (h12 : 1 ≤ p.dests.length ∧ p.dests.length ≤ 2) (h6 : p.checks.length ≤ 6) (hc : ∀ c ∈ p.checks, checkB p c = true) : NetOk p := by
  have hl := hM.nodes.1
  subst hl
  exact ⟨hM.head, hM.k, hN, hM.nodes, hM.l9, hM.links, hM.pairs, h12, hD, h6, hc⟩
theorem grown_set {x y : World} {b i : Nat} {v : Value} (h : x.grownBy y (some b)) : x.grownBy (y.setCell ⟨b, i, none⟩ v) (some b) :=
  ⟨h.os, h.tape, h.output, by simpa [World.setCell] using h.size, fun k hk hne => (Below.heap_setCell _ _ _ _ (by rintro rfl; exact hne rfl)).trans (h.block k hk hne)⟩
/-- The world behind Net. -/
def netEnd (b : Nat) (wr : World) (p : Net) (h : Hd) : World :=
  ((((((wr.setCell ⟨b, 0, none⟩ (.int .i64 p.proto)).setCell ⟨b, 1, none⟩ (.int .i64 p.cap)).setCell ⟨b, 2, none⟩ (.int .i64 p.k)).setCell ⟨b, 3, none⟩ (.slice h.an p.nodes.length h.cn)).setCell ⟨b, 4, none⟩ (.slice h.al p.links.length h.cl)).setCell ⟨b, 5, none⟩ (.slice h.ad p.dests.length h.cd)).setCell ⟨b, 6, none⟩ (.slice h.ac p.checks.length h.cc)
theorem netEnd_grown (b : Nat) (wr : World) (p : Net) (h : Hd) : wr.grownBy (netEnd b wr p h) (some b) :=
  grown_set (grown_set (grown_set (grown_set (grown_set (grown_set (grown_set (World.grownBy.refl _ _)))))))
theorem NS.post {w wr : World} {p : Net} {h : Hd} (a : NS w wr p h) (hp : NetOk p) : NetPost w (.returned (netV p h)) (netEnd w.heap.size wr p h) := by
  obtain ⟨h1, h2⟩ := a.b.answer (netEnd_grown _ _ _ _)
  exact ⟨p, h, rfl, hp, h1, h2⟩
theorem NS.res {w wr : World} {p : Net} {h : Hd} (a : NS w wr p h) : (∀ i, wr.frozen? ⟨w.heap.size, i, none⟩ = false) ∧ wr.cell? ⟨w.heap.size, 0, none⟩ = some (.int .i64 0) ∧ wr.cell? ⟨w.heap.size, 1, none⟩ = some (.int .i64 0) ∧ wr.cell? ⟨w.heap.size, 2, none⟩ = some (.int .i64 0) ∧
    wr.cell? ⟨w.heap.size, 3, none⟩ = some (.slice none 0 0) ∧ wr.cell? ⟨w.heap.size, 4, none⟩ = some (.slice none 0 0) ∧ wr.cell? ⟨w.heap.size, 5, none⟩ = some (.slice none 0 0) ∧ wr.cell? ⟨w.heap.size, 6, none⟩ = some (.slice none 0 0) :=
  ⟨fun i => frozen_of_row wr _ i _ _ a.b.res, cell_of_row wr _ 0 _ _ _ a.b.res, cell_of_row wr _ 1 _ _ _ a.b.res, cell_of_row wr _ 2 _ _ _ a.b.res, cell_of_row wr _ 3 _ _ _ a.b.res, cell_of_row wr _ 4 _ _ _ a.b.res, cell_of_row wr _ 5 _ _ _ a.b.res, cell_of_row wr _ 6 _ _ _ a.b.res⟩
end

section
/-- Block b holds a network, which reads. -/
structure PB (w0 wr : World) (b : Nat) (p : Net) (h : Hd) : Prop where
  below : Below w0.heap.size w0 wr
  lt : b < wr.heap.size
  cells : ∀ i u, (netCells p h)[i]? = some u → wr.cell? ⟨b, i, none⟩ = some u
  net : NetR wr wr.heap.size p h
section
variable {w0 wr w' : World} {b : Nat} {p : Net} {h : Hd}
theorem PB.call (a : PB w0 wr b p h) (hb : Below wr.heap.size wr w') : PB w0 w' b p h :=
  ⟨a.below.trans (hb.mono a.below.size), Nat.lt_of_lt_of_le a.lt hb.size, fun i u hu => (hb.cell (p := ⟨b, i, none⟩) a.lt).trans (a.cells i u hu), a.net.call hb⟩
theorem PB.all (a : PB w0 wr b p h) : wr.cell? ⟨b, 0, none⟩ = some (.int .i64 p.proto) ∧ wr.cell? ⟨b, 1, none⟩ = some (.int .i64 p.cap) ∧ wr.cell? ⟨b, 2, none⟩ = some (.int .i64 p.k) ∧ wr.cell? ⟨b, 3, none⟩ = some (.slice h.an p.nodes.length h.cn) ∧
    wr.cell? ⟨b, 4, none⟩ = some (.slice h.al p.links.length h.cl) ∧ wr.cell? ⟨b, 5, none⟩ = some (.slice h.ad p.dests.length h.cd) ∧ wr.cell? ⟨b, 6, none⟩ = some (.slice h.ac p.checks.length h.cc) :=
  ⟨a.cells 0 _ rfl, a.cells 1 _ rfl, a.cells 2 _ rfl, a.cells 3 _ rfl, a.cells 4 _ rfl, a.cells 5 _ rfl, a.cells 6 _ rfl⟩
theorem PB.begin (hb : Below w0.heap.size w0 wr) (hn : NetR wr wr.heap.size p h) : PB w0 (wr.alloc (.cells (netCells p h) 30)) wr.heap.size p h :=
  ⟨hb.alloc hb.size _, by simp, fun i u hu => by rw [cell_of_row _ _ i _ _ _ (heap_alloc_new wr (.cells (netCells p h) 30))]; exact hu, (hn.alloc (Nat.le_refl _) _).more (by simp)⟩
end

/-- A network is handed back. -/
def PairPost (q : Net) (w : World) (e : Ending) (w' : World) : Prop := ∃ h, e = .returned (netV q h) ∧ NetR w' w'.heap.size q h ∧ Below w.heap.size w w'
end
end Go.Proofs.YtakolnmoieiicaaGreat

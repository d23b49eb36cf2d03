/- General words of this seat's proofs: slices that read as a list of cells, slices of the call's own, small facts on bits. No program is walked here. Sorted and compacted lists: when nothing was there twice; a row of the call's own that is sorted in place. No program is walked here. From the arguments as they come in to what the walks are told: slices of integers, and numbers. No program is walked here. From a slice of slices of integers that came in to what the walks are told. No program is walked here. The walks of package bits: whether a link is in a set. Networks as plain data, and how they lie in memory. No program is walked here. The blocks that a call has laid for its own, one behind the other, from where its world ended. No program is walked here. -/
import Derived.Test.YtakolnmoieiicaaGreatRows
import Derived.WalkKit
import Derived.WalkSpells
import Derived.WalkLawsBesides
import Derived.Lib.Hide
import Derived.Deep.QuietTactic
import Derived.BigQuiet
import Derived.Deep.RegionHeld3
import Derived.Deep.RegionLaw
import Derived.Deep.LoopGhost
import Derived.Deep.DeepCutAuto
import Derived.Deep.DrawnRows
import Derived.Lib.SlicesCompact
import Derived.Sort.OwnSorted
import Derived.Shelf.Sort.Plain
import Derived.ProofKit
import Derived.OpenShut
import Derived.ChangeOld
import Derived.Below
import Derived.Deep.Matrix
namespace Go.Proofs.YtakolnmoieiicaaGreat
set_option linter.unusedSimpArgs false
set_option linter.unusedVariables false
open Go.RowKit

section
theorem ret_int {k : IntKind} {a b : Int} (h : a = b) : Ending.returned (.int k a) = .returned (.int k b) := by rw [h]
theorem ret_bool {a b : Bool} (h : a = b) : Ending.returned (.bool a) = .returned (.bool b) := by rw [h]

/-! ### Bits -/
theorem and_one (x : Int) : bits BinOp.and IntKind.i64 x 1 = x % 2 := by
  show IntKind.i64.wrap ((BitVec.ofInt 64 x &&& BitVec.ofInt 64 1).toNat : Int) = _
  have h1 : (BitVec.ofInt 64 x &&& BitVec.ofInt 64 1).toNat = (BitVec.ofInt 64 x).toNat % 2 := by
    rw [BitVec.toNat_and, show (BitVec.ofInt 64 1).toNat = 1 from rfl, Nat.and_one_is_mod]
  have h2 : ((BitVec.ofInt 64 x).toNat : Int) = x % 18446744073709551616 := by
    rw [BitVec.toNat_ofInt]; omega
  rw [h1, IntKind.wrap_i64]
  omega

def ints (l : List Int) : List Value := l.map (Value.int .i64)
def In64 (x : Int) : Prop := -9223372036854775808 ≤ x ∧ x < 9223372036854775808
def pickV (c n : Int) : Int := (if c < 0 then -(c + 1) else c) % n
theorem pickV_in {c n : Int} (hn : 0 < n) : 0 ≤ pickV c n ∧ pickV c n < n := ⟨Int.emod_nonneg _ (by omega), Int.emod_lt_of_pos _ hn⟩
/-! ### A slice that reads as cells -/
/-- The slice with address A and n elements of s cells each holds the cells xs, in blocks below B. -/
def Rd (w : World) (B s : Nat) (A : Option Addr) (n : Nat) (xs : List Value) : Prop :=
  xs.length = n * s ∧ (0 < n → ∃ b o, A = some ⟨b, o, none⟩ ∧ b < B ∧ ∀ j u, xs[j]? = some u → w.cell? ⟨b, o + j, none⟩ = some u)

section
variable {w w' : World} {B B' s n : Nat} {A : Option Addr} {xs : List Value}
theorem Rd.nil (A : Option Addr) : Rd w B s A 0 [] := ⟨by simp, fun h => absurd h (Nat.lt_irrefl 0)⟩
theorem Rd.keep (h : Rd w B s A n xs) (hk : ∀ b o, b < B → w'.cell? ⟨b, o, none⟩ = w.cell? ⟨b, o, none⟩) : Rd w' B s A n xs := by
  refine ⟨h.1, fun hn => ?_⟩
  obtain ⟨b, o, e, hb, hc⟩ := h.2 hn
  exact ⟨b, o, e, hb, fun j u hu => (hk b _ hb).trans (hc j u hu)⟩
theorem Rd.more (h : Rd w B s A n xs) (hB : B ≤ B') : Rd w B' s A n xs := by
  refine ⟨h.1, fun hn => ?_⟩
  obtain ⟨b, o, e, hb, hc⟩ := h.2 hn
  exact ⟨b, o, e, Nat.lt_of_lt_of_le hb hB, hc⟩
theorem Rd.below (h : Rd w B s A n xs) {C : Nat} (hb : Below C w w') (hC : B ≤ C) : Rd w' B s A n xs :=
  h.keep fun _ _ hlt => hb.cell (Nat.lt_of_lt_of_le hlt hC)
theorem Rd.alloc (h : Rd w B s A n xs) (hB : B ≤ w.heap.size) (o : Obj) : Rd (w.alloc o) B s A n xs :=
  h.keep fun b _ hlt => World.cell?_alloc_lt w o _ (show b < w.heap.size by omega)
theorem Rd.setCell (h : Rd w B s A n xs) {p : Addr} (hB : B ≤ p.block) (u : Value) : Rd (w.setCell p u) B s A n xs :=
  h.keep fun b _ hlt => World.cell?_setCell_other w p _ u (fun e => by subst e; simp at hB; omega)
theorem Rd.grown (h : Rd w B s A n xs) {row : Option Nat} (hg : w.grownBy w' row) (hB : B ≤ w.heap.size) (hr : ∀ g, row = some g → B ≤ g) : Rd w' B s A n xs :=
  h.keep fun b _ hlt => World.cell?_of_block (hg.block b (Nat.lt_of_lt_of_le hlt hB) (fun e => by have := hr _ e.symm; omega))
/-- The cells of element i. -/
theorem Rd.at_ (h : Rd w B s A n xs) (hn : 0 < n) : ∃ b o, A = some ⟨b, o, none⟩ ∧ b < B ∧ ∀ j u, xs[j]? = some u → w.cell? ⟨b, o + j, none⟩ = some u := h.2 hn
end

/-! ### Elements of several cells -/
theorem flat_at {α : Type} {f : α → List Value} {s : Nat} (hf : ∀ x, (f x).length = s) : ∀ (L : List α) (i j : Nat) (x : α), L[i]? = some x → j < s → (L.flatMap f)[i * s + j]? = (f x)[j]?
  | [], i, j, x, h, _ => by simp at h
  | y :: L, 0, j, x, h, hj => by
    simp at h; subst h
    rw [List.flatMap_cons, Nat.zero_mul, Nat.zero_add, List.getElem?_append_left (by rw [hf]; exact hj)]
  | y :: L, i + 1, j, x, h, hj => by
    have ih := flat_at hf L i j x (by simpa using h) hj
    rw [List.flatMap_cons, List.getElem?_append_right (by rw [hf, Nat.add_mul]; omega), hf, ← ih]
    congr 1
    rw [Nat.add_mul]; omega
theorem flat_len {α : Type} {f : α → List Value} {s : Nat} (hf : ∀ x, (f x).length = s) (L : List α) : (L.flatMap f).length = L.length * s := by
  induction L with
  | nil => simp
  | cons y L ih => rw [List.flatMap_cons, List.length_append, ih, hf, List.length_cons, Nat.add_mul]; omega

/-- The cells of an element of a slice of structs. -/
theorem Rd.elem {α : Type} {f : α → List Value} {s : Nat} (hf : ∀ x, (f x).length = s) {w : World} {B : Nat} {A : Option Addr} {L : List α} (h : Rd w B s A L.length (L.flatMap f)) {i : Nat} {x : α} (hi : L[i]? = some x) :
    ∃ b o, A = some ⟨b, o, none⟩ ∧ b < B ∧ ∀ j u, j < s → (f x)[j]? = some u → w.cell? ⟨b, o + (i * s + j), none⟩ = some u := by
  obtain ⟨b, o, e, hb, hc⟩ := h.2 (by have := (List.getElem?_eq_some_iff.1 hi).1; omega)
  exact ⟨b, o, e, hb, fun j u hj hu => hc _ _ (by rw [flat_at hf L i j x hi hj]; exact hu)⟩

theorem Rd.one {w : World} {B : Nat} {A : Option Addr} {n : Nat} {L : List Value} (h : Rd w B 1 A n L) {i : Nat} {x : Value} (hi : L[i]? = some x) :
    ∃ b o, A = some ⟨b, o, none⟩ ∧ b < B ∧ w.cell? ⟨b, o + i, none⟩ = some x := by
  obtain ⟨b, o, e, hb, hc⟩ := h.2 (by have := (List.getElem?_eq_some_iff.1 hi).1; have := h.1; omega)
  exact ⟨b, o, e, hb, hc i x hi⟩

/-! ### A slice of the call's own -/
/-- The block of an address. -/
def blk (A : Option Addr) : Option Nat := A.map (·.block)

/-- The slice (A, n, c) of elements of type e, s cells each, lies in a block from B on that is all the call's own, and holds the cells xs. -/
def Own (w : World) (B : Nat) (e : TypeId) (s : Nat) (A : Option Addr) (n c : Nat) (xs : List Value) : Prop :=
  xs.length = n * s ∧ n ≤ c ∧ c ≤ maxLen ∧ (A = none → c = 0) ∧ (∀ g, blk A = some g → B ≤ g) ∧
  (0 < c → ∃ g off cur, A = some ⟨g, off, none⟩ ∧ w.heap[g]? = some (.cells cur e (0, 0)) ∧ off + c * s ≤ cur.size ∧ ∀ j u, xs[j]? = some u → cur[off + j]? = some u)

section
variable {w w' : World} {B s n c : Nat} {e : TypeId} {A : Option Addr} {xs : List Value}
theorem Own.nil (w : World) (B : Nat) (e : TypeId) (s : Nat) : Own w B e s none 0 0 [] :=
  ⟨by simp, Nat.le_refl _, by simp [maxLen], fun _ => rfl, by simp [blk], fun h => absurd h (Nat.lt_irrefl 0)⟩
theorem lt_heap {w : World} {g : Nat} {o : Obj} (h : w.heap[g]? = some o) : g < w.heap.size := (Array.getElem?_eq_some_iff.1 h).1
theorem Own.of_row {v : Value} (h : w.ownsRow B e s v n xs) : ∃ A c, v = .slice A n c ∧ Own w B e s A n c xs ∧ (A = none ∨ ∃ g, A = some ⟨g, 0, none⟩) := by
  rcases h.2 with ⟨rfl, rfl⟩ | ⟨g, cap, cur, rfl, hb, hh, hn, hm, hs, ht⟩
  · refine ⟨none, 0, rfl, ⟨h.1, Nat.le_refl _, by simp [maxLen], fun _ => rfl, by simp [blk], fun h => absurd h (Nat.lt_irrefl 0)⟩, .inl rfl⟩
  · refine ⟨_, cap, rfl, ⟨h.1, hn, hm, by simp, by simp [blk]; exact hb, fun _ => ⟨g, 0, cur, rfl, hh, by omega, fun j u hu => ?_⟩⟩, .inr ⟨g, rfl⟩⟩
    rw [← ht, List.getElem?_take] at hu
    split at hu
    · simpa using hu
    · cases hu
theorem Own.kept {row : Option Nat} (h : Own w B e s A n c xs) (hg : w.grownBy w' row) (hne : blk A = none ∨ blk A ≠ row) : Own w' B e s A n c xs := by
  obtain ⟨h1, h2, h3, h4, hb, h5⟩ := h
  refine ⟨h1, h2, h3, h4, hb, fun hc => ?_⟩
  obtain ⟨g, off, cur, rfl, hh, r⟩ := h5 hc
  refine ⟨g, off, cur, rfl, ?_, r⟩
  rw [hg.block g (lt_heap hh) (by simpa [blk] using hne)]
  exact hh
theorem Own.alloc (h : Own w B e s A n c xs) (o : Obj) : Own (w.alloc o) B e s A n c xs :=
  h.kept (World.grownBy_alloc w o none) (by cases hv : blk A <;> simp)
theorem Own.drew (h : Own w B e s A n c xs) : Own w.drew B e s A n c xs := h
theorem Own.drewN (h : Own w B e s A n c xs) (k : Nat) : Own (w.drewN k) B e s A n c xs := h
theorem Own.more {B' : Nat} (h : Own w B e s A n c xs) (hB : B' ≤ B) : Own w B' e s A n c xs := by
  obtain ⟨h1, h2, h3, h4, hb, h5⟩ := h
  exact ⟨h1, h2, h3, h4, fun g hg => Nat.le_trans hB (hb g hg), h5⟩
/-- What is owned below C stays so where the world is as it was below C. -/
theorem Own.below {C : Nat} (h : Own w B e s A n c xs) (hb : Below C w w') (hC : ∀ g, blk A = some g → g < C) : Own w' B e s A n c xs := by
  obtain ⟨h1, h2, h3, h4, hb', h5⟩ := h
  refine ⟨h1, h2, h3, h4, hb', fun hc => ?_⟩
  obtain ⟨g, off, cur, rfl, hh, r⟩ := h5 hc
  refine ⟨g, off, cur, rfl, ?_, r⟩
  rw [hb.block g (hC g rfl)]
  exact hh
/-- Behind a call that turns nothing that was there. -/
theorem Own.call (h : Own w B e s A n c xs) (hb : Below w.heap.size w w') : Own w' B e s A n c xs := by
  obtain ⟨h1, h2, h3, h4, hb', h5⟩ := h
  refine ⟨h1, h2, h3, h4, hb', fun hc => ?_⟩
  obtain ⟨g, off, cur, rfl, hh, r⟩ := h5 hc
  refine ⟨g, off, cur, rfl, ?_, r⟩
  rw [hb.block g (lt_heap hh)]
  exact hh
theorem Own.from_ (h : Own w B e s A n c xs) : ∀ g, blk A = some g → B ≤ g := h.2.2.2.2.1
theorem Own.len (h : Own w B e s A n c xs) : xs.length = n * s := h.1
/-- What is owned reads as what it holds. -/
theorem Own.rd (h : Own w B e s A n c xs) : Rd w w.heap.size s A n xs := by
  refine ⟨h.1, fun hn => ?_⟩
  obtain ⟨g, off, cur, rfl, hh, hs, hx⟩ := h.2.2.2.2.2 (by have := h.2.1; omega)
  exact ⟨g, off, rfl, lt_heap hh, fun j u hu => by rw [cell_of_row w g _ cur e (0, 0) hh]; exact hx j u hu⟩
/-- A cell of another block is written. -/
theorem Own.setCell_far (h : Own w B e s A n c xs) {p : Addr} (hp : ∀ g, blk A = some g → g ≠ p.block) (u : Value) : Own (w.setCell p u) B e s A n c xs := by
  obtain ⟨h1, h2, h3, h4, hb, h5⟩ := h
  refine ⟨h1, h2, h3, h4, hb, fun hc => ?_⟩
  obtain ⟨g, off, cur, rfl, hh, r⟩ := h5 hc
  refine ⟨g, off, cur, rfl, ?_, r⟩
  rw [Below.heap_setCell _ _ _ _ (hp g rfl)]
  exact hh
/-- Two blocks of different element types are two. -/
theorem Own.setCell_type (h : Own w B e s A n c xs) {p : Addr} {cs : Array Value} {t : TypeId} {fr : Nat × Nat} (hp : w.heap[p.block]? = some (.cells cs t fr)) (ht : t ≠ e) (u : Value) : Own (w.setCell p u) B e s A n c xs := by
  obtain ⟨h1, h2, h3, h4, hb, h5⟩ := h
  refine ⟨h1, h2, h3, h4, hb, fun hc => ?_⟩
  obtain ⟨g, off, cur, rfl, hh, r⟩ := h5 hc
  refine ⟨g, off, cur, rfl, ?_, r⟩
  rw [Below.heap_setCell _ _ _ _ (by rintro rfl; rw [hp] at hh; injection hh with hh; injection hh with _ h2; exact ht h2)]
  exact hh
/-- 'xs[k:]'. -/
theorem Own.cut (h : Own w B e s A n c xs) {k : Nat} (hk : k ≤ n) : Own w B e s (if c = k then A else A.map (·.add (k * s))) (n - k) (c - k) (xs.drop (k * s)) := by
  obtain ⟨h1, h2, h3, h4, hb, h5⟩ := h
  refine ⟨by rw [List.length_drop, h1, Nat.sub_mul], by omega, by omega, ?_, ?_, fun hc => ?_⟩
  · intro hn
    by_cases e : c = k
    · omega
    · rw [if_neg e] at hn
      simp at hn
      have := h4 hn
      omega
  · intro g hg
    by_cases e : c = k
    · rw [if_pos e] at hg
      exact hb g hg
    · rw [if_neg e] at hg
      apply hb g
      obtain ⟨g', off, cur, rfl, _⟩ := h5 (by omega)
      simp [blk, Addr.add_lit] at hg ⊢
      exact hg
  · obtain ⟨g, off, cur, rfl, hh, hs, hx⟩ := h5 (by omega)
    rw [if_neg (by omega)]
    refine ⟨g, off + k * s, cur, by simp [Addr.add_lit], hh, ?_, fun j u hu => ?_⟩
    · have : (c - k) * s = c * s - k * s := Nat.sub_mul _ _ _
      have := Nat.mul_le_mul_right s (show k ≤ c by omega)
      omega
    · rw [List.getElem?_drop] at hu
      have := hx _ u hu
      rwa [← Nat.add_assoc] at this
end

/-- A block that has just been made reads as what it was made of. -/
theorem Rd.new {w : World} {cs : Array Value} {e : TypeId} {m s n : Nat} (hn : n = w.heap.size) (hl : cs.size = m * s) : Rd (w.alloc (.cells cs e)) (w.alloc (.cells cs e)).heap.size s (some ⟨n, 0, none⟩) m cs.toList := by
  subst hn
  refine ⟨by simpa using hl, fun _ => ⟨w.heap.size, 0, rfl, by simp, fun j u hu => ?_⟩⟩
  rw [World.cell?_alloc_new]
  simpa using hu

/-! ### append -/
section
variable {P : Program} (w : World)
theorem run_append_own_any (B : Nat) (t ty e : TypeId) (i : TypeInfo) (z : Value) (size bytes : Nat) (ht : P.underlying t = some (.slice e)) (hi : P.info? e = some i) (hz : i.zero = some z)
    (hsize : i.size = size) (hby : i.bytes = bytes) (hzs : z.cells.size = size) (hsz : 0 < size)
    (A : Option Addr) (n c : Nat) (xs : List Value) (hown : Own w B e size A n c xs)
    (AD : Option Addr) (m cx : Nat) (news : List Value) (C : Nat) (hr : Rd w C size AD m news) (h1 : ∀ u ∈ news, u.oneCell' = true)
    (h63 : n + m ≤ maxLen) (hbytes : (n + m) * bytes ≤ 140737488355328) (hB : B ≤ w.heap.size) :
    ∃ A' c' w', (Builtin.append_ #[t, t] ty #[.slice A n c, .slice AD m cx]).run P w = .ok (.slice A' (n + m) c') w' ∧ Own w' B e size A' (n + m) c' (xs ++ news) ∧ w.grownBy w' (blk A) ∧
      (A' = A ∨ blk A' = some w.heap.size) ∧ (A' = none → A = none) := by
  by_cases hm : m = 0
  · subst hm
    have hn : news = [] := List.eq_nil_of_length_eq_zero (by simpa using hr.1)
    subst hn
    refine ⟨A, c, w, ?_, by simpa using hown, World.grownBy.refl w _, .inl rfl, id⟩
    have hnc := hown.2.1
    simp [Builtin.append_, run_underlying ht, sizeOf, typeInfo, hi, Builtin.lenOf, hnc]
    cases AD with
    | none => cases A <;> simp [Builtin.firstCells, storeCells]
    | some ad => cases A <;> simp [Builtin.firstCells, loadCells, loadCellsFrom, storeCells]
  · obtain ⟨b, o, rfl, hb, hc⟩ := hr.2 (by omega)
    have hnews : ∀ j u, news[j]? = some u → w.cell? ((⟨b, o, none⟩ : Addr).add j) = some u := fun j u hu => by rw [Addr.add_lit]; exact hc j u hu
    by_cases hroom : n + m ≤ c
    · obtain ⟨g, off, cur, rfl, hh, hs, hx⟩ := hown.2.2.2.2.2 (by omega)
      have hbg : B ≤ g := hown.2.2.2.2.1 g rfl
      have hlo := hown.1
      have hln := hr.1
      have hmul : (n + m) * size ≤ c * size := Nat.mul_le_mul_right _ hroom
      rw [Nat.add_mul] at hmul
      have hf := run_firstCells_some (P := P) w i.size m ⟨b, o, none⟩ m cx news (by rw [hsize]; exact hln) hnews
      have hst := run_storeCells_at P g (off + n * size) e news 0 cur w hh (by omega) h1
      simp only [Nat.add_zero] at hst
      rw [hsize] at hf
      generalize hcs : (cur.toList.take (off + n * size) ++ news ++ cur.toList.drop (off + n * size + news.length)).toArray = cs at hst
      refine ⟨some ⟨g, off, none⟩, c, w.setRow g cs, ?_, ⟨by rw [List.length_append, hlo, hln, Nat.add_mul], hroom, hown.2.2.1, by simp, by simp [blk]; exact hbg, fun _ => ⟨g, off, cs, rfl, setRow_heap w g cur cs e _ hh, ?_, ?_⟩⟩, ⟨rfl, rfl, rfl, by simp, fun k _ hk => setRow_other w g k cs (fun e => hk (by simp [blk, e]))⟩, .inl rfl, by simp⟩
      · simp [Builtin.append_, run_underlying ht, sizeOf, typeInfo, hi, Builtin.lenOf, hroom, hsize, hf, Addr.add_lit, hst]
      · subst hcs
        simp only [List.size_toArray, List.length_append, List.length_take, List.length_drop, Array.length_toList]
        omega
      · subst hcs
        intro j u hu
        by_cases hj : j < xs.length
        · rw [List.getElem?_append_left hj] at hu
          have := hx j u hu
          simp only [List.getElem?_toArray]
          rw [List.append_assoc, List.getElem?_append_left (by simp; omega), List.getElem?_take, if_pos (by omega)]
          simpa using this
        · have hjl : j < xs.length + news.length := by
            have := (List.getElem?_eq_some_iff.1 hu).1
            simpa using this
          rw [List.getElem?_append_right (by omega)] at hu
          simp only [List.getElem?_toArray]
          rw [List.append_assoc, List.getElem?_append_right (by simp; omega), List.getElem?_append_left (by simp; omega), ← hu]
          congr 1
          simp
          omega
    · have hnewsm := hr.1
      have h63' : ((n + m : Nat) : Int) ≤ 9223372036854775807 := by unfold maxLen at h63; omega
      cases A with
      | none =>
        have hc0 := hown.2.2.2.1 rfl
        have hn0 : n = 0 := by have := hown.2.1; omega
        subst hn0
        subst hc0
        have hx0 : xs = [] := List.eq_nil_of_length_eq_zero (by simpa using hown.1)
        subst hx0
        obtain ⟨v', w', hrun, hrow, hgr, hiff⟩ := run_append_own (P := P) w B t ty e i z size bytes ht hi hz hsize hby hzs hsz (.slice none 0 0) 0 [] (World.ownsRow_nil _ _ _ _) ⟨b, o, none⟩ m cx news hnewsm hnews h1 h63 hbytes hB
        obtain ⟨A', c', rfl, hO, hA'⟩ := Own.of_row hrow
        have hnn : A' ≠ none := by
          rintro rfl
          have hc' := hO.2.2.2.1 rfl
          have := hO.2.1
          omega
        refine ⟨A', c', w', hrun, hO, hgr, .inr ?_, fun h => absurd h hnn⟩
        have hr2 := run_append_nil (P := P) w t ty e i z ht hi hz ⟨b, o, none⟩ m cx news (by rw [hsize]; exact hnewsm) hnews (by omega) (by simpa using h63') (by rw [hby]; simp at hbytes; omega)
        rw [hr2] at hrun
        injection hrun with hv _
        injection hv with hv1 _ _
        rw [← hv1]; rfl
      | some ad =>
        have hrd := hown.rd
        have holds : ∀ j u, xs[j]? = some u → w.cell? (ad.add j) = some u := by
          intro j u hu
          have hn : 0 < n := by
            rcases Nat.eq_zero_or_pos n with h0 | h0
            · subst h0
              have : xs = [] := List.eq_nil_of_length_eq_zero (by simpa using hown.1)
              subst this
              simp at hu
            · exact h0
          obtain ⟨b', o', e', _, hc'⟩ := hrd.2 hn
          injection e' with e'
          subst e'
          rw [Addr.add_lit]
          exact hc' j u hu
        obtain ⟨v', w', hrun, hrow, hgr⟩ := run_append_arg_grows (P := P) w t ty e i z size bytes ht hi hz hsize hby hzs hsz ad n c xs hown.1 holds ⟨b, o, none⟩ m cx news hnewsm hnews (by omega) h63 hbytes
        obtain ⟨A', c', rfl, hO, hA'⟩ := Own.of_row hrow
        refine ⟨A', c', w', hrun, hO.more hB, ⟨hgr.os, hgr.tape, hgr.output, hgr.size, fun k hk _ => hgr.block k hk (by simp)⟩, .inr ?_, ?_⟩
        · have hr2 := run_append_grow (P := P) w t ty e i z ht hi hz ad n c xs (by rw [hsize]; exact hown.1) holds ⟨b, o, none⟩ m cx news (by rw [hsize]; exact hnewsm) hnews (by omega) h63' (growslice_fits (by omega) (by rw [hby]; exact hbytes))
          rw [hr2] at hrun
          injection hrun with hv _
          injection hv with hv1 _ _
          rw [← hv1]; rfl
        · rintro rfl
          have hc' := hO.2.2.2.1 rfl
          have := hO.2.1
          omega
/-- 'append' to a slice of the call's own, as an arm of the walk. -/
theorem wpList_app {ops : Array Oper} {rest : List Oper} {o : Oper} {a : Act} {Q : Exit → Act → World → Prop} (hgd : o.guard = none) (s x : Operand) (t : TypeId)
    (ho : o.op = .call { callee := .builtin .append, args := #[s, x], argTypes := #[t, t] })
    (B : Nat) (e : TypeId) (i : TypeInfo) (z : Value) (size bytes : Nat) (ht : P.underlying t = some (.slice e)) (hi : P.info? e = some i) (hz : i.zero = some z)
    (hsize : i.size = size) (hby : i.bytes = bytes) (hzs : z.cells.size = size) (hsz : 0 < size)
    (A : Option Addr) (n c : Nat) (xs : List Value) (hs : a.eval s = .slice A n c) (hown : Own w B e size A n c xs)
    (AD : Option Addr) (m cx : Nat) (news : List Value) (hx : a.eval x = .slice AD m cx) (hr : Rd w w.heap.size size AD m news) (h1 : ∀ u ∈ news, u.oneCell' = true)
    (h63 : n + m ≤ maxLen) (hbytes : (n + m) * bytes ≤ 140737488355328) (hB : B ≤ w.heap.size)
    (h : ∀ A' c' w', Own w' B e size A' (n + m) c' (xs ++ news) → w.grownBy w' (blk A) → (A' = A ∨ blk A' = some w.heap.size) → (A' = none → A = none) → wpList P ops Q rest (a.put o.dst (.slice A' (n + m) c')) w') :
    wpList P ops Q (o :: rest) a w := by
  refine wpList_plain hgd fun K hK => ?_
  obtain ⟨A', c', w', hrun, h2, h3, h4, h5⟩ := run_append_own_any (P := P) w B t o.type e i z size bytes ht hi hz hsize hby hzs hsz A n c xs hown AD m cx news _ hr h1 h63 hbytes hB
  unfold Oper.wp execOp
  simp only [ho, resolve, invoke, builtin, Sem.run_bind, Sem.run_pure, Result.andThen_ok, List.map_toArray, List.map_cons, List.map_nil, hs, hx, hrun]
  exact hK _ _ (h A' c' w' h2 h3 h4 h5)
end
/-! ### Shared by the layers -/
theorem Tryz.info_int : (Tryz.prog.info? 3).map (fun i => (i.zero, i.size, i.bytes)) = some (some (.int .i64 0), 1, 8) := by kernel_rfl
def IxPost (b : Bool) (w : World) (e : Ending) (w' : World) : Prop := ∃ r : Int, e = .returned (.int .i64 r) ∧ (decide (0 ≤ r) = b) ∧ Below w.heap.size w w'
theorem since_trans {w0 wx wy : World} (h : Below w0.heap.size w0 wx) (hb : Below wx.heap.size wx wy) : Below w0.heap.size w0 wy := h.trans (hb.mono h.size)
theorem since_alloc {w0 wx : World} (h : Below w0.heap.size w0 wx) (o : Obj) : Below w0.heap.size w0 (wx.alloc o) := h.alloc h.size o
theorem below_drew {w wx : World} (h : Below w.heap.size w wx) : Below w.heap.size w wx.drew := h.trans ⟨rfl, rfl, rfl, Nat.le_refl _, fun _ _ => rfl⟩
section
variable {P : Program} (w : World)
/-- append, at a step of a region that draws its order. -/
theorem step_app {ops : Array Oper} {o : Oper} {a : Act} {K : Act → World → Prop} {Q : Exit → Act → World → Prop} {E : Prop} (hgd : o.guard = none) (s x : Operand) (t : TypeId)
    (ho : o.op = .call { callee := .builtin .append, args := #[s, x], argTypes := #[t, t] })
    (B : Nat) (e : TypeId) (i : TypeInfo) (z : Value) (size bytes : Nat) (ht : P.underlying t = some (.slice e)) (hi : P.info? e = some i) (hz : i.zero = some z)
    (hsize : i.size = size) (hby : i.bytes = bytes) (hzs : z.cells.size = size) (hsz : 0 < size)
    (A : Option Addr) (n c : Nat) (xs : List Value) (hs : a.eval s = .slice A n c) (hown : Own w B e size A n c xs)
    (AD : Option Addr) (m cx : Nat) (news : List Value) (hx : a.eval x = .slice AD m cx) (hr : Rd w w.heap.size size AD m news) (h1 : ∀ u ∈ news, u.oneCell' = true)
    (h63 : n + m ≤ maxLen) (hbytes : (n + m) * bytes ≤ 140737488355328) (hB : B ≤ w.heap.size)
    (h : ∀ A' c' w', Own w' B e size A' (n + m) c' (xs ++ news) → w.grownBy w' (blk A) → (A' = A ∨ blk A' = some w.heap.size) → (A' = none → A = none) → K (a.put o.dst (.slice A' (n + m) c')) w') :
    if Region.wanted o (yielded ops a.tmps) = true then Oper.wp P o a w K Q else E := by
  have hw : Region.wanted o (yielded ops a.tmps) = true := by simp [Region.wanted, hgd]
  rw [if_pos hw]
  obtain ⟨A', c', w', hrun, h2, h3, h4, h5⟩ := run_append_own_any (P := P) w B t o.type e i z size bytes ht hi hz hsize hby hzs hsz A n c xs hown AD m cx news _ hr h1 h63 hbytes hB
  unfold Oper.wp execOp
  simp only [ho, resolve, invoke, builtin, Sem.run_bind, Sem.run_pure, Result.andThen_ok, List.map_toArray, List.map_cons, List.map_nil, hs, hx, hrun]
  exact h A' c' w' h2 h3 h4 h5
end
end

section
open Go.RowKit Go.Sort

/-! ### Plain: nothing goes at a compacting just if nothing was there twice -/
theorem count_all {f : Nat → Bool} {n : Nat} : ((List.range n).filter f).length = n ↔ ∀ j, j < n → f j = true := by
  constructor
  · intro h j hj
    have : (List.range n).filter f = List.range n := List.filter_sublist.eq_of_length (by simpa using h)
    exact (List.filter_eq_self.1 this) j (List.mem_range.2 hj)
  · intro h
    rw [List.filter_eq_self.2 (fun j hj => h j (List.mem_range.1 hj))]; simp
theorem compact_len {α : Type} [Inhabited α] [DecidableEq α] (zs : List α) : (Lib.compact zs).length = zs.length ↔ ∀ j, j + 1 < zs.length → zs[j + 1]! ≠ zs[j]! := by
  unfold Lib.compact Lib.compactUpTo
  rw [List.length_map, count_all]
  constructor
  · intro h j hj
    have := h (j + 1) hj
    simpa [Lib.keeps] using this
  · intro h j hj
    cases j with
    | zero => simp [Lib.keeps]
    | succ j => simpa [Lib.keeps] using h j hj
theorem sorted_nodup {α : Type} [Inhabited α] {r : α → α → Prop} (htr : ∀ a b c, r a b → r b c → r a c) (has : ∀ a b, r a b → r b a → a = b) (zs : List α) (hs : zs.Pairwise r) :
    zs.Nodup ↔ ∀ j, j + 1 < zs.length → zs[j + 1]! ≠ zs[j]! := by
  constructor
  · intro h j hj e
    rw [getElem!_pos zs (j + 1) hj, getElem!_pos zs j (by omega)] at e
    have := (List.getElem_inj h).1 e
    omega
  · induction zs with
    | nil => intro _; simp
    | cons a t ih =>
      intro h
      obtain ⟨h1, h2⟩ := List.pairwise_cons.1 hs
      refine List.nodup_cons.2 ⟨fun hm => ?_, ih h2 (fun j hj => ?_)⟩
      · cases t with
        | nil => simp at hm
        | cons b t =>
          have hab := h1 b (by simp)
          have hne := h 0 (by simp)
          have hba : r b a := by
            rcases List.mem_cons.1 hm with rfl | hm
            · simp at hne
            · exact (List.pairwise_cons.1 h2).1 a hm
          exact hne (by simpa using has b a hba hab)
      · have := h (j + 1) (by simpa using hj)
        rw [getElem!_pos _ (j + 1 + 1) (by simpa using hj), getElem!_pos _ (j + 1) (by simp; omega)] at this
        rw [getElem!_pos t (j + 1) hj, getElem!_pos t j (by omega)]
        simpa using this

section
variable {α : Type} [Inhabited α] {enc : α → Value} {w : World} {B e c g off q : Nat} {zs ys : List α} {os : Array Obj}
theorem Own.holdsE (h : Own w B e 1 (some ⟨g, off, none⟩) zs.length c (zs.map enc)) (hp : 0 < c) : Holds enc w g off zs.toArray := by
  obtain ⟨g', off', cur, e', hh, _, hx⟩ := h.2.2.2.2.2 hp
  injection e' with e'
  injection e' with e1 e2
  subst e1 e2
  intro j hj
  have hj' : j < zs.length := by simpa using hj
  refine ⟨?_, frozen_of_row w g _ cur e hh⟩
  rw [cell_of_row w g _ cur e (0, 0) hh]
  refine (hx j (enc zs[j]) (by simp [hj'])).trans ?_
  rw [getElem!_pos _ j hj]; simp
theorem Own.putRowE (h : Own w B e 1 (some ⟨g, off, none⟩) zs.length c (zs.map enc)) (hp : 0 < c) (hl : ys.length = zs.length) :
    Own (grow (Go.Sort.putRow enc (Sort.ahead w q) g off ys.toArray) os) B e 1 (some ⟨g, off, none⟩) ys.length c (ys.map enc) ∧ w.grownBy (grow (Go.Sort.putRow enc (Sort.ahead w q) g off ys.toArray) os) (some g) := by
  obtain ⟨h1, h2, h3, h4, h5, h6⟩ := h
  obtain ⟨g', off', cur, e', hh, hs, hx⟩ := h6 hp
  injection e' with e'
  injection e' with e1 e2
  subst e1 e2
  have hg := lt_heap hh
  refine ⟨⟨by simp, by omega, h3, h4, h5, fun _ => ⟨g, off, putCells enc off ys.toArray cur, rfl, ?_, by simp [putCells]; omega, fun j u hu => ?_⟩⟩, ⟨rfl, rfl, rfl, by simp, fun k hk hne => ?_⟩⟩
  · rw [heap_grow_old _ _ (by simpa using hg)]
    simp [Go.Sort.putRow, mapBlock, Sort.ahead, Array.getElem?_modify, hh, onCells]
  · have hj : j < ys.length := by
      have := (List.getElem?_eq_some_iff.1 hu).1
      simpa using this
    have hcs : off + j < cur.size := by omega
    rw [List.getElem?_map, List.getElem?_eq_getElem hj] at hu
    simp at hu
    subst hu
    simp [putCells, Array.getElem?_mapIdx, hcs, hj]
  · rw [heap_grow_old _ _ (by simpa using hk)]
    have : g ≠ k := fun e => hne (by rw [e])
    simp [Go.Sort.putRow, mapBlock, Sort.ahead, Array.getElem?_modify, this]
end
theorem sorted_ints (l : List Int) : (l.mergeSort fun x y => decide (x ≤ y)).Pairwise (fun a b => a ≤ b) := by
  have := List.pairwise_mergeSort (le := fun x y : Int => decide (x ≤ y)) (fun a b c h1 h2 => by simp at h1 h2 ⊢; omega) (fun a b => by simp; omega) l
  exact this.imp fun {a b} h => by simpa using h
theorem compact_nodup (l : List Int) : (Lib.compact (l.mergeSort fun x y => decide (x ≤ y))).length = l.length ↔ l.Nodup := by
  have hp := List.mergeSort_perm l (fun x y => decide (x ≤ y))
  rw [← hp.nodup_iff, ← hp.length_eq, compact_len]
  exact (sorted_nodup (r := fun a b : Int => a ≤ b) (fun a b c => Int.le_trans) (fun a b => Int.le_antisymm) _ (sorted_ints l)).symm
end

section
open Go.ChangeShapes Go.WideShapes Go.ChangeAt Go.RowKit Go.Sort
open Go.ChangeMaps (open_string shut_string)

theorem own : ownKnob Tryz.prog.godebug = none := by kernel_rfl
theorem laidOut : laidOutB Tryz.prog = true := by kernel_rfl
/-- What the walks are told of a slice of integers that came in. -/
structure InRow (w : World) (a : Option Addr) (cap : Nat) (l : List Int) : Prop where
  rd : Rd w w.heap.size 1 a l.length (ints l)
  in64 : ∀ x ∈ l, In64 x
  le : l.length ≤ cap
  max : cap ≤ maxLen
theorem InRow.call {w w' : World} {a : Option Addr} {cap : Nat} {l : List Int} (h : InRow w a cap l) (hb : Below w.heap.size w w') : InRow w' a cap l :=
  ⟨(h.rd.below hb (Nat.le_refl _)).more hb.size, h.in64, h.le, h.max⟩
theorem InRow.len {w : World} {a : Option Addr} {cap : Nat} {l : List Int} (h : InRow w a cap l) : l.length ≤ maxLen := Nat.le_trans h.le h.max
theorem in64_of_wf {n : Int} (h : (Lit.int .i64 n).wf = true) : In64 n := by
  have := bounds_i64 h
  unfold In64
  omega
theorem cell_lt {w : World} {a : Addr} {v : Value} (h : w.cell? a = some v) : a.block < w.heap.size := by
  apply Nat.lt_of_not_le
  intro hge
  simp [World.cell?, Array.getElem?_eq_none hge] at h
theorem open_row {H : Type} {enc : TypeId × Value → H} {W : World} {t e fuel : Nat} (hu : Tryz.prog.underlying t = some (.slice e)) (he : Tryz.prog.underlying e = some (.int .i64)) (hc : Tryz.prog.cellsOf e = 1) {a : Option Addr} {len cap : Nat} {x : DataW H × List MemPlace}
    (hf : DataW.trod enc Tryz.prog W 0 (fun _ => true) true fuel t [.slice a len cap] = some x) : ∃ l : List Int, l.length = len ∧ InRow W a cap l := by
  rcases open_ints hu he hc hf with ⟨hcs, _⟩ | ⟨x, l, c, zs, hcs, _, hl, hm, hz, _, hcell, hwz⟩
  · simp [Value.cells] at hcs
    obtain ⟨rfl, rfl, rfl⟩ := hcs
    exact ⟨[], rfl, ⟨Rd.nil _, by simp, Nat.le_refl _, by simp [maxLen]⟩⟩
  · simp [Value.cells] at hcs
    obtain ⟨rfl, rfl, rfl⟩ := hcs
    obtain ⟨b, off, spot⟩ := x
    have hz' : zs.length = cap := by simpa using hz
    refine ⟨zs.take len, by simp; omega, ⟨?_, fun y hy => in64_of_wf (hwz y (List.mem_of_mem_take hy)), by simp; omega, hm⟩⟩
    refine ⟨by simp [ints], fun hn => ?_⟩
    have hn' : 0 < len := by simp at hn; omega
    have hspot : spot = none := by simpa [Addr.add] using World.cell?_spot (hcell 0 (by omega))
    subst hspot
    refine ⟨b, off, rfl, cell_lt (hcell 0 (by omega)), fun j u hj => ?_⟩
    have hjl : j < len := by
      have := (List.getElem?_eq_some_iff.1 hj).1
      simp [ints] at this; omega
    have := hcell j (by omega)
    rw [add_plain] at this
    rw [this]
    simp only [ints, List.getElem?_map, List.getElem?_take_of_lt hjl] at hj
    rw [List.getElem?_eq_getElem (by omega)] at hj
    rw [← hj]
    simp [List.getD, List.getElem?_eq_getElem (show j < zs.length by omega)]
end

section
open Go.ChangeShapes Go.WideShapes Go.ChangeAt Go.RowKit Go.Sort Go.Deep

def rowV (z : List Int × (Option Addr × Nat)) : Value := .slice z.2.1 z.1.length z.2.2
/-- What the walks are told of a slice of slices of integers: the rows' numbers R, their heads V. -/
structure RowsIn (w : World) (a : Option Addr) (cap : Nat) (R : List (List Int)) (V : List (Option Addr × Nat)) : Prop where
  len : V.length = R.length
  row : Rd w w.heap.size 1 a R.length ((R.zip V).map rowV)
  each : ∀ z ∈ R.zip V, InRow w z.2.1 z.2.2 z.1
  le : R.length ≤ cap
  max : cap ≤ maxLen
theorem RowsIn.call {w w' : World} {a : Option Addr} {cap : Nat} {R : List (List Int)} {V : List (Option Addr × Nat)} (h : RowsIn w a cap R V) (hb : Below w.heap.size w w') : RowsIn w' a cap R V :=
  ⟨h.len, (h.row.below hb (Nat.le_refl _)).more hb.size, fun z hz => (h.each z hz).call hb, h.le, h.max⟩
theorem zip_ranges {α β : Type} (f : Nat → α) (g : Nat → β) (n : Nat) : ((List.range n).map f).zip ((List.range n).map g) = (List.range n).map fun i => (f i, g i) := by
  induction n with
  | zero => rfl
  | succ n ih => rw [List.range_succ, List.map_append, List.map_append, List.zip_append (by simp), ih, List.map_append]; rfl
theorem inRow_of {W : World} {A : Option Addr} {L C : Nat} {Z : List Int} (hl : L ≤ C) (hm : C ≤ maxLen) (hz : Z.length = C) (hw : ∀ n ∈ Z, (Lit.int .i64 n).wf = true) (hn : A = none → C = 0)
    (hc : ∀ a', A = some a' → ∀ c, c < C → W.cell? (a'.add c) = some (.int .i64 (Z.getD c 0))) : InRow W A C (Z.take L) := by
  refine ⟨⟨by simp [ints], fun h0 => ?_⟩, fun y hy => in64_of_wf (hw y (List.mem_of_mem_take hy)), by simp; omega, hm⟩
  have h0' : 0 < L := by simp at h0; omega
  cases A with
  | none => have := hn rfl; omega
  | some a' =>
    obtain ⟨b, off, spot⟩ := a'
    have hcell := hc _ rfl
    have hspot : spot = none := by simpa [Addr.add] using World.cell?_spot (hcell 0 (by omega))
    subst hspot
    refine ⟨b, off, rfl, cell_lt (hcell 0 (by omega)), fun j u hj => ?_⟩
    have hjl : j < L := by
      have := (List.getElem?_eq_some_iff.1 hj).1
      simp [ints] at this; omega
    have := hcell j (by omega)
    rw [add_plain] at this
    rw [this]
    simp only [ints, List.getElem?_map, List.getElem?_take_of_lt hjl] at hj
    rw [List.getElem?_eq_getElem (by omega)] at hj
    rw [← hj]
    simp [List.getD, List.getElem?_eq_getElem (show j < Z.length by omega)]
theorem open_rows {H : Type} {enc : TypeId × Value → H} {W : World} {t e q fuel : Nat} (ht : Tryz.prog.underlying t = some (.slice e)) (he : Tryz.prog.underlying e = some (.slice q)) (hq : Tryz.prog.underlying q = some (.int .i64)) (ce : Tryz.prog.cellsOf e = 1) (cq : Tryz.prog.cellsOf q = 1) {a : Option Addr} {len cap : Nat} {x : DataW H × List MemPlace}
    (hf : DataW.trod enc Tryz.prog W 0 (fun _ => true) true fuel t [.slice a len cap] = some x) : ∃ (R : List (List Int)) (V : List (Option Addr × Nat)), R.length = len ∧ RowsIn W a cap R V := by
  rcases open_int_rows ht he hq ce cq hf with ⟨hcs, _⟩ | ⟨a', len', cap', A, L, C, Z, hcs, _, hl, hm, _, hr⟩
  · simp at hcs
    obtain ⟨rfl, rfl, rfl⟩ := hcs
    exact ⟨[], [], rfl, rfl, Rd.nil _, (by intro z hz; cases hz), Nat.le_refl _, by simp [maxLen]⟩
  · simp at hcs
    obtain ⟨rfl, rfl, rfl⟩ := hcs
    have hz := zip_ranges (fun r => (Z r).take (L r)) (fun r => (A r, C r)) len
    refine ⟨(List.range len).map fun r => (Z r).take (L r), (List.range len).map fun r => (A r, C r), by simp, by simp, ?_, ?_, by simpa using hl, hm⟩
    · rw [hz]
      refine ⟨by simp, fun h0 => ?_⟩
      have h0' : 0 < len := by simpa using h0
      obtain ⟨b, off, spot⟩ := a'
      have hspot : spot = none := by simpa [Addr.add] using World.cell?_spot (hr 0 (by omega)).1
      subst hspot
      refine ⟨b, off, rfl, cell_lt (hr 0 (by omega)).1, fun j u hj => ?_⟩
      have hjl : j < len := by
        have := (List.getElem?_eq_some_iff.1 hj).1
        simpa using this
      obtain ⟨h1, h2, _, h4, _⟩ := hr j (by omega)
      rw [add_plain] at h1
      rw [h1]
      simp [hjl] at hj
      rw [← hj]
      simp [rowV]; omega
    · intro z hzm
      rw [hz] at hzm
      obtain ⟨r, hrm, rfl⟩ := List.mem_map.1 hzm
      have hrl := List.mem_range.1 hrm
      obtain ⟨_, h2, h3, h4, h5, h6, h7⟩ := hr r (by omega)
      exact inRow_of h2 h3 h4 h5 h6 (fun a' e => (h7 a' e).2)
end

section
/-- Is link i in the set f? -/
def hasB (f i : Int) : Bool := decide (0 ≤ i ∧ i < 16) && decide (f / 2 ^ i.toNat % 2 = 1)

theorem isLink_any (n : Int) (w : World) : Calls Tryz.prog 130 #[.int .i64 n] w fun e w' => e = .returned (.bool (decide (0 ≤ n ∧ n < 16))) ∧ w = w' := by
  go_enter Tryz.func130, Tryz.ntmps130
  go_wp2
  all_goals go_ret
  · have h : (0 : Int) ≤ n := by assumption
    exact ⟨ret_bool (by simp [h]), rfl⟩
  · have h : n < 0 := by assumption
    exact ⟨ret_bool (by simp; omega), rfl⟩

theorem has_any (f n : Int) (w : World) : Calls Tryz.prog 117 #[.int .i64 f, .int .i64 n] w fun e w' => e = .returned (.bool (hasB f n)) ∧ w = w' := by
  by_cases h : 0 ≤ n ∧ n < 16
  · have hb : decide (0 ≤ n ∧ n < 16) = true := by simpa using h
    obtain ⟨h0, h1⟩ := h
    go_enter Tryz.func117, Tryz.ntmps117
    go_wp2_with (go_at_call 130; refine (isLink_any _ _).mono ?_; rintro e w' ⟨rfl, rfl⟩)
    all_goals go_ret
    exact ⟨ret_bool (by simp [hasB, h0, h1, and_one]; rfl), rfl⟩
  · have hb : decide (0 ≤ n ∧ n < 16) = false := by simpa using h
    go_enter Tryz.func117, Tryz.ntmps117
    go_wp2_with (go_at_call 130; refine (isLink_any _ _).mono ?_; rintro e w' ⟨rfl, rfl⟩)
    all_goals go_ret
    exact ⟨ret_bool (by simp only [hasB, hb]; rfl), rfl⟩
end

section
structure Nd where
  name : ByteArray
  as_ : Int
structure Lk where
  a : Int
  b : Int
  cost : Int
structure Ds where
  name : ByteArray
  origins : List Int
structure Ck where
  kind : Int
  node : Int
  dest : Int
  limit : Int
  other : Int
structure Net where
  proto : Int
  cap : Int
  k : Int
  nodes : List Nd
  links : List Lk
  dests : List Ds
  checks : List Ck

def ndCells (x : Nd) : List Value := [.string x.name, .int .i64 x.as_]
def lkCells (x : Lk) : List Value := [.int .i64 x.a, .int .i64 x.b, .int .i64 x.cost]
def ckCells (x : Ck) : List Value := [.int .i64 x.kind, .int .i64 x.node, .int .i64 x.dest, .int .i64 x.limit, .int .i64 x.other]

theorem Rd.link {w : World} {B : Nat} {A : Option Addr} {L : List Lk} (h : Rd w B 3 A L.length (L.flatMap lkCells)) {i : Nat} {x : Lk} (hi : L[i]? = some x) :
    ∃ b o, A = some ⟨b, o, none⟩ ∧ b < B ∧ w.cell? ⟨b, o + i * 3, none⟩ = some (.int .i64 x.a) ∧ w.cell? ⟨b, o + i * 3 + 1, none⟩ = some (.int .i64 x.b) ∧ w.cell? ⟨b, o + i * 3 + 2, none⟩ = some (.int .i64 x.cost) := by
  obtain ⟨b, o, e, hb, hc⟩ := h.elem (f := lkCells) (fun _ => rfl) hi
  exact ⟨b, o, e, hb, hc 0 _ (by omega) rfl, hc 1 _ (by omega) rfl, hc 2 _ (by omega) rfl⟩
theorem Rd.node {w : World} {B : Nat} {A : Option Addr} {L : List Nd} (h : Rd w B 2 A L.length (L.flatMap ndCells)) {i : Nat} {x : Nd} (hi : L[i]? = some x) :
    ∃ b o, A = some ⟨b, o, none⟩ ∧ b < B ∧ w.cell? ⟨b, o + i * 2, none⟩ = some (.string x.name) ∧ w.cell? ⟨b, o + i * 2 + 1, none⟩ = some (.int .i64 x.as_) := by
  obtain ⟨b, o, e, hb, hc⟩ := h.elem (f := ndCells) (fun _ => rfl) hi
  exact ⟨b, o, e, hb, hc 0 _ (by omega) rfl, hc 1 _ (by omega) rfl⟩
theorem Rd.check {w : World} {B : Nat} {A : Option Addr} {L : List Ck} (h : Rd w B 5 A L.length (L.flatMap ckCells)) {i : Nat} {x : Ck} (hi : L[i]? = some x) :
    ∃ b o, A = some ⟨b, o, none⟩ ∧ b < B ∧ w.cell? ⟨b, o + i * 5, none⟩ = some (.int .i64 x.kind) ∧ w.cell? ⟨b, o + i * 5 + 1, none⟩ = some (.int .i64 x.node) ∧ w.cell? ⟨b, o + i * 5 + 2, none⟩ = some (.int .i64 x.dest) ∧
      w.cell? ⟨b, o + i * 5 + 3, none⟩ = some (.int .i64 x.limit) ∧ w.cell? ⟨b, o + i * 5 + 4, none⟩ = some (.int .i64 x.other) := by
  obtain ⟨b, o, e, hb, hc⟩ := h.elem (f := ckCells) (fun _ => rfl) hi
  exact ⟨b, o, e, hb, hc 0 _ (by omega) rfl, hc 1 _ (by omega) rfl, hc 2 _ (by omega) rfl, hc 3 _ (by omega) rfl, hc 4 _ (by omega) rfl⟩
/-- The value of a network: seven cells. -/
def netVal (p : Net) (an : Option Addr) (cn : Nat) (al : Option Addr) (cl : Nat) (ad : Option Addr) (cd : Nat) (ac : Option Addr) (cc : Nat) : Value :=
  .agg #[.int .i64 p.proto, .int .i64 p.cap, .int .i64 p.k, .slice an p.nodes.length cn, .slice al p.links.length cl, .slice ad p.dests.length cd, .slice ac p.checks.length cc]
end

section
/-- From w on the blocks L lie in wr; what lay in w lies as it lay. -/
structure Bl (w wr : World) (L : List Obj) : Prop where
  below : Below w.heap.size w wr
  at_ : ∀ i o, L[i]? = some o → wr.heap[w.heap.size + i]? = some o
section
variable {w wr w' : World} {L : List Obj}
theorem Bl.begin (w : World) : Bl w w [] := ⟨Below.refl _ _, by intro i o h; simp at h⟩
theorem Bl.lt (a : Bl w wr L) {i : Nat} (h : i < L.length) : w.heap.size + i < wr.heap.size := lt_heap (a.at_ i _ (List.getElem?_eq_getElem h))
theorem Bl.call (a : Bl w wr L) (hb : Below wr.heap.size wr w') : Bl w w' L :=
  ⟨a.below.trans (hb.mono a.below.size), fun i o h => (hb.block _ (lt_heap (a.at_ i o h))).trans (a.at_ i o h)⟩
theorem Bl.alloc (a : Bl w wr L) (o : Obj) : Bl w (wr.alloc o) L := a.call ((Below.refl _ _).alloc (Nat.le_refl _) o)
theorem Bl.drew (a : Bl w wr L) : Bl w wr.drew L := a.call (below_drew (Below.refl _ _))
theorem Bl.push (a : Bl w wr L) (hs : wr.heap.size = w.heap.size + L.length) (o : Obj) : Bl w (wr.alloc o) (L ++ [o]) := by
  refine ⟨(a.alloc o).below, fun i x h => ?_⟩
  by_cases hi : i < L.length
  · rw [List.getElem?_append_left hi] at h
    exact (a.alloc o).at_ i x h
  · have hi' : i = L.length := by
      have := (List.getElem?_eq_some_iff.1 h).1
      simp at this; omega
    subst hi'
    simp at h
    subst h
    rw [← hs]
    exact heap_alloc_new wr o
/-- A cell behind them is written. -/
theorem Bl.set (a : Bl w wr L) {q : Addr} (hq : w.heap.size + L.length ≤ q.block) (v : Value) : Bl w (wr.setCell q v) L :=
  ⟨a.below.setCell (by omega) v, fun i o h => by
    rw [Below.heap_setCell _ _ _ _ (by have := (List.getElem?_eq_some_iff.1 h).1; omega)]
    exact a.at_ i o h⟩
/-- A cell of block i is written. -/
theorem Bl.put (a : Bl w wr L) {i k : Nat} {cs : Array Value} {t : TypeId} (h : L[i]? = some (.cells cs t (0, 0))) (v : Value) : Bl w (wr.setCell ⟨w.heap.size + i, k, none⟩ v) (L.set i (.cells (cs.setIfInBounds k v) t (0, 0))) := by
  refine ⟨a.below.setCell (Nat.le_add_right _ _) v, fun j o hj => ?_⟩
  by_cases e : i = j
  · subst e
    rw [heap_setCell_same _ _ _ _ _ _ (a.at_ i _ h)]
    rw [List.getElem?_set_self (List.getElem?_eq_some_iff.1 h).1] at hj
    exact hj
  · rw [List.getElem?_set_ne e] at hj
    rw [Below.heap_setCell _ _ _ _ (by show w.heap.size + j ≠ w.heap.size + i; omega)]
    exact a.at_ j o hj
theorem Bl.cell (a : Bl w wr L) {i k : Nat} {cs : Array Value} {t : TypeId} (h : L[i]? = some (.cells cs t (0, 0))) : wr.cell? ⟨w.heap.size + i, k, none⟩ = cs[k]? := cell_of_row wr _ k _ _ _ (a.at_ i _ h)
theorem Bl.free (a : Bl w wr L) {i k : Nat} {cs : Array Value} {t : TypeId} (h : L[i]? = some (.cells cs t (0, 0))) : wr.frozen? ⟨w.heap.size + i, k, none⟩ = false := frozen_of_row wr _ k _ _ (a.at_ i _ h)
theorem Bl.grown (a : Bl w wr L) {row : Option Nat} (hg : wr.grownBy w' row) (hr : ∀ g, row = some g → w.heap.size + L.length ≤ g) : Bl w w' L :=
  ⟨a.below.grown hg a.below.size (fun g h => by have := hr g h; omega), fun i o h => (hg.block _ (lt_heap (a.at_ i o h)) (fun e => by have := hr _ e.symm; have := (List.getElem?_eq_some_iff.1 h).1; omega)).trans (a.at_ i o h)⟩
end
/-- A block of the call's own reads as what it holds. -/
theorem Bl.rd {w wr : World} {L : List Obj} (a : Bl w wr L) {i m s : Nat} {cs : Array Value} {t : TypeId} (h : L[i]? = some (.cells cs t (0, 0))) (hl : cs.size = m * s) : Rd wr wr.heap.size s (some ⟨w.heap.size + i, 0, none⟩) m cs.toList := by
  refine ⟨by simpa using hl, fun _ => ⟨_, 0, rfl, lt_heap (a.at_ i _ h), fun j u hu => ?_⟩⟩
  rw [Nat.zero_add, a.cell h]
  simpa using hu
end
end Go.Proofs.YtakolnmoieiicaaGreat

/- General words of this seat's proofs: slices that read as a list of cells, slices of the call's own, small facts on bits. No program is walked here. -/
import Derived.Test.YtablbagdnmbbfaaGreatRows
import Derived.WalkKit
import Derived.WalkSpells
import Derived.WalkLawsBesides
import Derived.Lib.Hide
import Derived.Deep.QuietTactic
import Derived.BigQuiet
import Derived.Deep.RegionHeld3
import Derived.Deep.RegionLaw
import Derived.Deep.LoopGhost
import Derived.Deep.DeepCutAuto
import Derived.Deep.DrawnRows
namespace Go.Proofs.YtablbagdnmbbfaaGreat
set_option linter.unusedSimpArgs false
set_option linter.unusedVariables false
open Go.RowKit

theorem ret_int {k : IntKind} {a b : Int} (h : a = b) : Ending.returned (.int k a) = .returned (.int k b) := by rw [h]
theorem ret_bool {a b : Bool} (h : a = b) : Ending.returned (.bool a) = .returned (.bool b) := by rw [h]

/-! ### Bits -/
theorem and_one (x : Int) : bits BinOp.and IntKind.i64 x 1 = x % 2 := by
  show IntKind.i64.wrap ((BitVec.ofInt 64 x &&& BitVec.ofInt 64 1).toNat : Int) = _
  have h1 : (BitVec.ofInt 64 x &&& BitVec.ofInt 64 1).toNat = (BitVec.ofInt 64 x).toNat % 2 := by
    rw [BitVec.toNat_and, show (BitVec.ofInt 64 1).toNat = 1 from rfl, Nat.and_one_is_mod]
  have h2 : ((BitVec.ofInt 64 x).toNat : Int) = x % 18446744073709551616 := by
    rw [BitVec.toNat_ofInt]; omega
  rw [h1, IntKind.wrap_i64]
  omega

def ints (l : List Int) : List Value := l.map (Value.int .i64)
def In64 (x : Int) : Prop := -9223372036854775808 ≤ x ∧ x < 9223372036854775808
def pickV (c n : Int) : Int := (if c < 0 then -(c + 1) else c) % n
theorem pickV_in {c n : Int} (hn : 0 < n) : 0 ≤ pickV c n ∧ pickV c n < n := ⟨Int.emod_nonneg _ (by omega), Int.emod_lt_of_pos _ hn⟩
/-! ### A slice that reads as cells -/
/-- The slice with address A and n elements of s cells each holds the cells xs, in blocks below B. -/
def Rd (w : World) (B s : Nat) (A : Option Addr) (n : Nat) (xs : List Value) : Prop :=
  xs.length = n * s ∧ (0 < n → ∃ b o, A = some ⟨b, o, none⟩ ∧ b < B ∧ ∀ j u, xs[j]? = some u → w.cell? ⟨b, o + j, none⟩ = some u)

section
variable {w w' : World} {B B' s n : Nat} {A : Option Addr} {xs : List Value}
theorem Rd.nil (A : Option Addr) : Rd w B s A 0 [] := ⟨by simp, fun h => absurd h (Nat.lt_irrefl 0)⟩
theorem Rd.keep (h : Rd w B s A n xs) (hk : ∀ b o, b < B → w'.cell? ⟨b, o, none⟩ = w.cell? ⟨b, o, none⟩) : Rd w' B s A n xs := by
  refine ⟨h.1, fun hn => ?_⟩
  obtain ⟨b, o, e, hb, hc⟩ := h.2 hn
  exact ⟨b, o, e, hb, fun j u hu => (hk b _ hb).trans (hc j u hu)⟩
theorem Rd.more (h : Rd w B s A n xs) (hB : B ≤ B') : Rd w B' s A n xs := by
  refine ⟨h.1, fun hn => ?_⟩
  obtain ⟨b, o, e, hb, hc⟩ := h.2 hn
  exact ⟨b, o, e, Nat.lt_of_lt_of_le hb hB, hc⟩
theorem Rd.below (h : Rd w B s A n xs) {C : Nat} (hb : Below C w w') (hC : B ≤ C) : Rd w' B s A n xs :=
  h.keep fun _ _ hlt => hb.cell (Nat.lt_of_lt_of_le hlt hC)
theorem Rd.alloc (h : Rd w B s A n xs) (hB : B ≤ w.heap.size) (o : Obj) : Rd (w.alloc o) B s A n xs :=
  h.keep fun b _ hlt => World.cell?_alloc_lt w o _ (show b < w.heap.size by omega)
theorem Rd.setCell (h : Rd w B s A n xs) {p : Addr} (hB : B ≤ p.block) (u : Value) : Rd (w.setCell p u) B s A n xs :=
  h.keep fun b _ hlt => World.cell?_setCell_other w p _ u (fun e => by subst e; simp at hB; omega)
theorem Rd.grown (h : Rd w B s A n xs) {row : Option Nat} (hg : w.grownBy w' row) (hB : B ≤ w.heap.size) (hr : ∀ g, row = some g → B ≤ g) : Rd w' B s A n xs :=
  h.keep fun b _ hlt => World.cell?_of_block (hg.block b (Nat.lt_of_lt_of_le hlt hB) (fun e => by have := hr _ e.symm; omega))
/-- The cells of element i. -/
theorem Rd.at_ (h : Rd w B s A n xs) (hn : 0 < n) : ∃ b o, A = some ⟨b, o, none⟩ ∧ b < B ∧ ∀ j u, xs[j]? = some u → w.cell? ⟨b, o + j, none⟩ = some u := h.2 hn
end

/-! ### Elements of several cells -/
theorem flat_at {α : Type} {f : α → List Value} {s : Nat} (hf : ∀ x, (f x).length = s) : ∀ (L : List α) (i j : Nat) (x : α), L[i]? = some x → j < s → (L.flatMap f)[i * s + j]? = (f x)[j]?
  | [], i, j, x, h, _ => by simp at h
  | y :: L, 0, j, x, h, hj => by
    simp at h; subst h
    rw [List.flatMap_cons, Nat.zero_mul, Nat.zero_add, List.getElem?_append_left (by rw [hf]; exact hj)]
  | y :: L, i + 1, j, x, h, hj => by
    have ih := flat_at hf L i j x (by simpa using h) hj
    rw [List.flatMap_cons, List.getElem?_append_right (by rw [hf, Nat.add_mul]; omega), hf, ← ih]
    congr 1
    rw [Nat.add_mul]; omega
theorem flat_len {α : Type} {f : α → List Value} {s : Nat} (hf : ∀ x, (f x).length = s) (L : List α) : (L.flatMap f).length = L.length * s := by
  induction L with
  | nil => simp
  | cons y L ih => rw [List.flatMap_cons, List.length_append, ih, hf, List.length_cons, Nat.add_mul]; omega

/-- The cells of an element of a slice of structs. -/
theorem Rd.elem {α : Type} {f : α → List Value} {s : Nat} (hf : ∀ x, (f x).length = s) {w : World} {B : Nat} {A : Option Addr} {L : List α} (h : Rd w B s A L.length (L.flatMap f)) {i : Nat} {x : α} (hi : L[i]? = some x) :
    ∃ b o, A = some ⟨b, o, none⟩ ∧ b < B ∧ ∀ j u, j < s → (f x)[j]? = some u → w.cell? ⟨b, o + (i * s + j), none⟩ = some u := by
  obtain ⟨b, o, e, hb, hc⟩ := h.2 (by have := (List.getElem?_eq_some_iff.1 hi).1; omega)
  exact ⟨b, o, e, hb, fun j u hj hu => hc _ _ (by rw [flat_at hf L i j x hi hj]; exact hu)⟩

theorem Rd.one {w : World} {B : Nat} {A : Option Addr} {n : Nat} {L : List Value} (h : Rd w B 1 A n L) {i : Nat} {x : Value} (hi : L[i]? = some x) :
    ∃ b o, A = some ⟨b, o, none⟩ ∧ b < B ∧ w.cell? ⟨b, o + i, none⟩ = some x := by
  obtain ⟨b, o, e, hb, hc⟩ := h.2 (by have := (List.getElem?_eq_some_iff.1 hi).1; have := h.1; omega)
  exact ⟨b, o, e, hb, hc i x hi⟩

/-! ### A slice of the call's own -/
/-- The block of an address. -/
def blk (A : Option Addr) : Option Nat := A.map (·.block)

/-- The slice (A, n, c) of elements of type e, s cells each, lies in a block from B on that is all the call's own, and holds the cells xs. -/
def Own (w : World) (B : Nat) (e : TypeId) (s : Nat) (A : Option Addr) (n c : Nat) (xs : List Value) : Prop :=
  xs.length = n * s ∧ n ≤ c ∧ c ≤ maxLen ∧ (A = none → c = 0) ∧ (∀ g, blk A = some g → B ≤ g) ∧
  (0 < c → ∃ g off cur, A = some ⟨g, off, none⟩ ∧ w.heap[g]? = some (.cells cur e (0, 0)) ∧ off + c * s ≤ cur.size ∧ ∀ j u, xs[j]? = some u → cur[off + j]? = some u)

section
variable {w w' : World} {B s n c : Nat} {e : TypeId} {A : Option Addr} {xs : List Value}
theorem Own.nil (w : World) (B : Nat) (e : TypeId) (s : Nat) : Own w B e s none 0 0 [] :=
  ⟨by simp, Nat.le_refl _, by simp [maxLen], fun _ => rfl, by simp [blk], fun h => absurd h (Nat.lt_irrefl 0)⟩
theorem lt_heap {w : World} {g : Nat} {o : Obj} (h : w.heap[g]? = some o) : g < w.heap.size := (Array.getElem?_eq_some_iff.1 h).1
theorem Own.of_row {v : Value} (h : w.ownsRow B e s v n xs) : ∃ A c, v = .slice A n c ∧ Own w B e s A n c xs ∧ (A = none ∨ ∃ g, A = some ⟨g, 0, none⟩) := by
  rcases h.2 with ⟨rfl, rfl⟩ | ⟨g, cap, cur, rfl, hb, hh, hn, hm, hs, ht⟩
  · refine ⟨none, 0, rfl, ⟨h.1, Nat.le_refl _, by simp [maxLen], fun _ => rfl, by simp [blk], fun h => absurd h (Nat.lt_irrefl 0)⟩, .inl rfl⟩
  · refine ⟨_, cap, rfl, ⟨h.1, hn, hm, by simp, by simp [blk]; exact hb, fun _ => ⟨g, 0, cur, rfl, hh, by omega, fun j u hu => ?_⟩⟩, .inr ⟨g, rfl⟩⟩
    rw [← ht, List.getElem?_take] at hu
    split at hu
    · simpa using hu
    · cases hu
theorem Own.kept {row : Option Nat} (h : Own w B e s A n c xs) (hg : w.grownBy w' row) (hne : blk A = none ∨ blk A ≠ row) : Own w' B e s A n c xs := by
  obtain ⟨h1, h2, h3, h4, hb, h5⟩ := h
  refine ⟨h1, h2, h3, h4, hb, fun hc => ?_⟩
  obtain ⟨g, off, cur, rfl, hh, r⟩ := h5 hc
  refine ⟨g, off, cur, rfl, ?_, r⟩
  rw [hg.block g (lt_heap hh) (by simpa [blk] using hne)]
  exact hh
theorem Own.alloc (h : Own w B e s A n c xs) (o : Obj) : Own (w.alloc o) B e s A n c xs :=
  h.kept (World.grownBy_alloc w o none) (by cases hv : blk A <;> simp)
theorem Own.drew (h : Own w B e s A n c xs) : Own w.drew B e s A n c xs := h
theorem Own.drewN (h : Own w B e s A n c xs) (k : Nat) : Own (w.drewN k) B e s A n c xs := h
theorem Own.more {B' : Nat} (h : Own w B e s A n c xs) (hB : B' ≤ B) : Own w B' e s A n c xs := by
  obtain ⟨h1, h2, h3, h4, hb, h5⟩ := h
  exact ⟨h1, h2, h3, h4, fun g hg => Nat.le_trans hB (hb g hg), h5⟩
/-- What is owned below C stays so where the world is as it was below C. -/
theorem Own.below {C : Nat} (h : Own w B e s A n c xs) (hb : Below C w w') (hC : ∀ g, blk A = some g → g < C) : Own w' B e s A n c xs := by
  obtain ⟨h1, h2, h3, h4, hb', h5⟩ := h
  refine ⟨h1, h2, h3, h4, hb', fun hc => ?_⟩
  obtain ⟨g, off, cur, rfl, hh, r⟩ := h5 hc
  refine ⟨g, off, cur, rfl, ?_, r⟩
  rw [hb.block g (hC g rfl)]
  exact hh
/-- Behind a call that turns nothing that was there. -/
theorem Own.call (h : Own w B e s A n c xs) (hb : Below w.heap.size w w') : Own w' B e s A n c xs := by
  obtain ⟨h1, h2, h3, h4, hb', h5⟩ := h
  refine ⟨h1, h2, h3, h4, hb', fun hc => ?_⟩
  obtain ⟨g, off, cur, rfl, hh, r⟩ := h5 hc
  refine ⟨g, off, cur, rfl, ?_, r⟩
  rw [hb.block g (lt_heap hh)]
  exact hh
theorem Own.from_ (h : Own w B e s A n c xs) : ∀ g, blk A = some g → B ≤ g := h.2.2.2.2.1
theorem Own.len (h : Own w B e s A n c xs) : xs.length = n * s := h.1
/-- What is owned reads as what it holds. -/
theorem Own.rd (h : Own w B e s A n c xs) : Rd w w.heap.size s A n xs := by
  refine ⟨h.1, fun hn => ?_⟩
  obtain ⟨g, off, cur, rfl, hh, hs, hx⟩ := h.2.2.2.2.2 (by have := h.2.1; omega)
  exact ⟨g, off, rfl, lt_heap hh, fun j u hu => by rw [cell_of_row w g _ cur e (0, 0) hh]; exact hx j u hu⟩
/-- A cell of another block is written. -/
theorem Own.setCell_far (h : Own w B e s A n c xs) {p : Addr} (hp : ∀ g, blk A = some g → g ≠ p.block) (u : Value) : Own (w.setCell p u) B e s A n c xs := by
  obtain ⟨h1, h2, h3, h4, hb, h5⟩ := h
  refine ⟨h1, h2, h3, h4, hb, fun hc => ?_⟩
  obtain ⟨g, off, cur, rfl, hh, r⟩ := h5 hc
  refine ⟨g, off, cur, rfl, ?_, r⟩
  rw [Below.heap_setCell _ _ _ _ (hp g rfl)]
  exact hh
/-- Two blocks of different element types are two. -/
theorem Own.setCell_type (h : Own w B e s A n c xs) {p : Addr} {cs : Array Value} {t : TypeId} {fr : Nat × Nat} (hp : w.heap[p.block]? = some (.cells cs t fr)) (ht : t ≠ e) (u : Value) : Own (w.setCell p u) B e s A n c xs := by
  obtain ⟨h1, h2, h3, h4, hb, h5⟩ := h
  refine ⟨h1, h2, h3, h4, hb, fun hc => ?_⟩
  obtain ⟨g, off, cur, rfl, hh, r⟩ := h5 hc
  refine ⟨g, off, cur, rfl, ?_, r⟩
  rw [Below.heap_setCell _ _ _ _ (by rintro rfl; rw [hp] at hh; injection hh with hh; injection hh with _ h2; exact ht h2)]
  exact hh
/-- 'xs[k:]'. -/
theorem Own.cut (h : Own w B e s A n c xs) {k : Nat} (hk : k ≤ n) : Own w B e s (if c = k then A else A.map (·.add (k * s))) (n - k) (c - k) (xs.drop (k * s)) := by
  obtain ⟨h1, h2, h3, h4, hb, h5⟩ := h
  refine ⟨by rw [List.length_drop, h1, Nat.sub_mul], by omega, by omega, ?_, ?_, fun hc => ?_⟩
  · intro hn
    by_cases e : c = k
    · omega
    · rw [if_neg e] at hn
      simp at hn
      have := h4 hn
      omega
  · intro g hg
    by_cases e : c = k
    · rw [if_pos e] at hg
      exact hb g hg
    · rw [if_neg e] at hg
      apply hb g
      obtain ⟨g', off, cur, rfl, _⟩ := h5 (by omega)
      simp [blk, Addr.add_lit] at hg ⊢
      exact hg
  · obtain ⟨g, off, cur, rfl, hh, hs, hx⟩ := h5 (by omega)
    rw [if_neg (by omega)]
    refine ⟨g, off + k * s, cur, by simp [Addr.add_lit], hh, ?_, fun j u hu => ?_⟩
    · have : (c - k) * s = c * s - k * s := Nat.sub_mul _ _ _
      have := Nat.mul_le_mul_right s (show k ≤ c by omega)
      omega
    · rw [List.getElem?_drop] at hu
      have := hx _ u hu
      rwa [← Nat.add_assoc] at this
end

/-- A block that has just been made reads as what it was made of. -/
theorem Rd.new {w : World} {cs : Array Value} {e : TypeId} {m s n : Nat} (hn : n = w.heap.size) (hl : cs.size = m * s) : Rd (w.alloc (.cells cs e)) (w.alloc (.cells cs e)).heap.size s (some ⟨n, 0, none⟩) m cs.toList := by
  subst hn
  refine ⟨by simpa using hl, fun _ => ⟨w.heap.size, 0, rfl, by simp, fun j u hu => ?_⟩⟩
  rw [World.cell?_alloc_new]
  simpa using hu

/-! ### append -/
section
variable {P : Program} (w : World)
theorem run_append_own_any (B : Nat) (t ty e : TypeId) (i : TypeInfo) (z : Value) (size bytes : Nat) (ht : P.underlying t = some (.slice e)) (hi : P.info? e = some i) (hz : i.zero = some z)
    (hsize : i.size = size) (hby : i.bytes = bytes) (hzs : z.cells.size = size) (hsz : 0 < size)
    (A : Option Addr) (n c : Nat) (xs : List Value) (hown : Own w B e size A n c xs)
    (AD : Option Addr) (m cx : Nat) (news : List Value) (C : Nat) (hr : Rd w C size AD m news) (h1 : ∀ u ∈ news, u.oneCell' = true)
    (h63 : n + m ≤ maxLen) (hbytes : (n + m) * bytes ≤ 140737488355328) (hB : B ≤ w.heap.size) :
    ∃ A' c' w', (Builtin.append_ #[t, t] ty #[.slice A n c, .slice AD m cx]).run P w = .ok (.slice A' (n + m) c') w' ∧ Own w' B e size A' (n + m) c' (xs ++ news) ∧ w.grownBy w' (blk A) ∧
      (A' = A ∨ blk A' = some w.heap.size) ∧ (A' = none → A = none) := by
  by_cases hm : m = 0
  · subst hm
    have hn : news = [] := List.eq_nil_of_length_eq_zero (by simpa using hr.1)
    subst hn
    refine ⟨A, c, w, ?_, by simpa using hown, World.grownBy.refl w _, .inl rfl, id⟩
    have hnc := hown.2.1
    simp [Builtin.append_, run_underlying ht, sizeOf, typeInfo, hi, Builtin.lenOf, hnc]
    cases AD with
    | none => cases A <;> simp [Builtin.firstCells, storeCells]
    | some ad => cases A <;> simp [Builtin.firstCells, loadCells, loadCellsFrom, storeCells]
  · obtain ⟨b, o, rfl, hb, hc⟩ := hr.2 (by omega)
    have hnews : ∀ j u, news[j]? = some u → w.cell? ((⟨b, o, none⟩ : Addr).add j) = some u := fun j u hu => by rw [Addr.add_lit]; exact hc j u hu
    by_cases hroom : n + m ≤ c
    · obtain ⟨g, off, cur, rfl, hh, hs, hx⟩ := hown.2.2.2.2.2 (by omega)
      have hbg : B ≤ g := hown.2.2.2.2.1 g rfl
      have hlo := hown.1
      have hln := hr.1
      have hmul : (n + m) * size ≤ c * size := Nat.mul_le_mul_right _ hroom
      rw [Nat.add_mul] at hmul
      have hf := run_firstCells_some (P := P) w i.size m ⟨b, o, none⟩ m cx news (by rw [hsize]; exact hln) hnews
      have hst := run_storeCells_at P g (off + n * size) e news 0 cur w hh (by omega) h1
      simp only [Nat.add_zero] at hst
      rw [hsize] at hf
      generalize hcs : (cur.toList.take (off + n * size) ++ news ++ cur.toList.drop (off + n * size + news.length)).toArray = cs at hst
      refine ⟨some ⟨g, off, none⟩, c, w.setRow g cs, ?_, ⟨by rw [List.length_append, hlo, hln, Nat.add_mul], hroom, hown.2.2.1, by simp, by simp [blk]; exact hbg, fun _ => ⟨g, off, cs, rfl, setRow_heap w g cur cs e _ hh, ?_, ?_⟩⟩, ⟨rfl, rfl, rfl, by simp, fun k _ hk => setRow_other w g k cs (fun e => hk (by simp [blk, e]))⟩, .inl rfl, by simp⟩
      · simp [Builtin.append_, run_underlying ht, sizeOf, typeInfo, hi, Builtin.lenOf, hroom, hsize, hf, Addr.add_lit, hst]
      · subst hcs
        simp only [List.size_toArray, List.length_append, List.length_take, List.length_drop, Array.length_toList]
        omega
      · subst hcs
        intro j u hu
        by_cases hj : j < xs.length
        · rw [List.getElem?_append_left hj] at hu
          have := hx j u hu
          simp only [List.getElem?_toArray]
          rw [List.append_assoc, List.getElem?_append_left (by simp; omega), List.getElem?_take, if_pos (by omega)]
          simpa using this
        · have hjl : j < xs.length + news.length := by
            have := (List.getElem?_eq_some_iff.1 hu).1
            simpa using this
          rw [List.getElem?_append_right (by omega)] at hu
          simp only [List.getElem?_toArray]
          rw [List.append_assoc, List.getElem?_append_right (by simp; omega), List.getElem?_append_left (by simp; omega), ← hu]
          congr 1
          simp
          omega
    · have hnewsm := hr.1
      have h63' : ((n + m : Nat) : Int) ≤ 9223372036854775807 := by unfold maxLen at h63; omega
      cases A with
      | none =>
        have hc0 := hown.2.2.2.1 rfl
        have hn0 : n = 0 := by have := hown.2.1; omega
        subst hn0
        subst hc0
        have hx0 : xs = [] := List.eq_nil_of_length_eq_zero (by simpa using hown.1)
        subst hx0
        obtain ⟨v', w', hrun, hrow, hgr, hiff⟩ := run_append_own (P := P) w B t ty e i z size bytes ht hi hz hsize hby hzs hsz (.slice none 0 0) 0 [] (World.ownsRow_nil _ _ _ _) ⟨b, o, none⟩ m cx news hnewsm hnews h1 h63 hbytes hB
        obtain ⟨A', c', rfl, hO, hA'⟩ := Own.of_row hrow
        have hnn : A' ≠ none := by
          rintro rfl
          have hc' := hO.2.2.2.1 rfl
          have := hO.2.1
          omega
        refine ⟨A', c', w', hrun, hO, hgr, .inr ?_, fun h => absurd h hnn⟩
        have hr2 := run_append_nil (P := P) w t ty e i z ht hi hz ⟨b, o, none⟩ m cx news (by rw [hsize]; exact hnewsm) hnews (by omega) (by simpa using h63') (by rw [hby]; simp at hbytes; omega)
        rw [hr2] at hrun
        injection hrun with hv _
        injection hv with hv1 _ _
        rw [← hv1]; rfl
      | some ad =>
        have hrd := hown.rd
        have holds : ∀ j u, xs[j]? = some u → w.cell? (ad.add j) = some u := by
          intro j u hu
          have hn : 0 < n := by
            rcases Nat.eq_zero_or_pos n with h0 | h0
            · subst h0
              have : xs = [] := List.eq_nil_of_length_eq_zero (by simpa using hown.1)
              subst this
              simp at hu
            · exact h0
          obtain ⟨b', o', e', _, hc'⟩ := hrd.2 hn
          injection e' with e'
          subst e'
          rw [Addr.add_lit]
          exact hc' j u hu
        obtain ⟨v', w', hrun, hrow, hgr⟩ := run_append_arg_grows (P := P) w t ty e i z size bytes ht hi hz hsize hby hzs hsz ad n c xs hown.1 holds ⟨b, o, none⟩ m cx news hnewsm hnews (by omega) h63 hbytes
        obtain ⟨A', c', rfl, hO, hA'⟩ := Own.of_row hrow
        refine ⟨A', c', w', hrun, hO.more hB, ⟨hgr.os, hgr.tape, hgr.output, hgr.size, fun k hk _ => hgr.block k hk (by simp)⟩, .inr ?_, ?_⟩
        · have hr2 := run_append_grow (P := P) w t ty e i z ht hi hz ad n c xs (by rw [hsize]; exact hown.1) holds ⟨b, o, none⟩ m cx news (by rw [hsize]; exact hnewsm) hnews (by omega) h63' (growslice_fits (by omega) (by rw [hby]; exact hbytes))
          rw [hr2] at hrun
          injection hrun with hv _
          injection hv with hv1 _ _
          rw [← hv1]; rfl
        · rintro rfl
          have hc' := hO.2.2.2.1 rfl
          have := hO.2.1
          omega
/-- 'append' to a slice of the call's own, as an arm of the walk. -/
theorem wpList_app {ops : Array Oper} {rest : List Oper} {o : Oper} {a : Act} {Q : Exit → Act → World → Prop} (hgd : o.guard = none) (s x : Operand) (t : TypeId)
    (ho : o.op = .call { callee := .builtin .append, args := #[s, x], argTypes := #[t, t] })
    (B : Nat) (e : TypeId) (i : TypeInfo) (z : Value) (size bytes : Nat) (ht : P.underlying t = some (.slice e)) (hi : P.info? e = some i) (hz : i.zero = some z)
    (hsize : i.size = size) (hby : i.bytes = bytes) (hzs : z.cells.size = size) (hsz : 0 < size)
    (A : Option Addr) (n c : Nat) (xs : List Value) (hs : a.eval s = .slice A n c) (hown : Own w B e size A n c xs)
    (AD : Option Addr) (m cx : Nat) (news : List Value) (hx : a.eval x = .slice AD m cx) (hr : Rd w w.heap.size size AD m news) (h1 : ∀ u ∈ news, u.oneCell' = true)
    (h63 : n + m ≤ maxLen) (hbytes : (n + m) * bytes ≤ 140737488355328) (hB : B ≤ w.heap.size)
    (h : ∀ A' c' w', Own w' B e size A' (n + m) c' (xs ++ news) → w.grownBy w' (blk A) → (A' = A ∨ blk A' = some w.heap.size) → (A' = none → A = none) → wpList P ops Q rest (a.put o.dst (.slice A' (n + m) c')) w') :
    wpList P ops Q (o :: rest) a w := by
  refine wpList_plain hgd fun K hK => ?_
  obtain ⟨A', c', w', hrun, h2, h3, h4, h5⟩ := run_append_own_any (P := P) w B t o.type e i z size bytes ht hi hz hsize hby hzs hsz A n c xs hown AD m cx news _ hr h1 h63 hbytes hB
  unfold Oper.wp execOp
  simp only [ho, resolve, invoke, builtin, Sem.run_bind, Sem.run_pure, Result.andThen_ok, List.map_toArray, List.map_cons, List.map_nil, hs, hx, hrun]
  exact hK _ _ (h A' c' w' h2 h3 h4 h5)
end
/-! ### Shared by the layers -/
theorem Tryz.info_int : (Tryz.prog.info? 3).map (fun i => (i.zero, i.size, i.bytes)) = some (some (.int .i64 0), 1, 8) := by kernel_rfl
def IxPost (b : Bool) (w : World) (e : Ending) (w' : World) : Prop := ∃ r : Int, e = .returned (.int .i64 r) ∧ (decide (0 ≤ r) = b) ∧ Below w.heap.size w w'
theorem since_trans {w0 wx wy : World} (h : Below w0.heap.size w0 wx) (hb : Below wx.heap.size wx wy) : Below w0.heap.size w0 wy := h.trans (hb.mono h.size)
theorem since_alloc {w0 wx : World} (h : Below w0.heap.size w0 wx) (o : Obj) : Below w0.heap.size w0 (wx.alloc o) := h.alloc h.size o
theorem below_drew {w wx : World} (h : Below w.heap.size w wx) : Below w.heap.size w wx.drew := h.trans ⟨rfl, rfl, rfl, Nat.le_refl _, fun _ _ => rfl⟩
section
variable {P : Program} (w : World)
/-- append, at a step of a region that draws its order. -/
theorem step_app {ops : Array Oper} {o : Oper} {a : Act} {K : Act → World → Prop} {Q : Exit → Act → World → Prop} {E : Prop} (hgd : o.guard = none) (s x : Operand) (t : TypeId)
    (ho : o.op = .call { callee := .builtin .append, args := #[s, x], argTypes := #[t, t] })
    (B : Nat) (e : TypeId) (i : TypeInfo) (z : Value) (size bytes : Nat) (ht : P.underlying t = some (.slice e)) (hi : P.info? e = some i) (hz : i.zero = some z)
    (hsize : i.size = size) (hby : i.bytes = bytes) (hzs : z.cells.size = size) (hsz : 0 < size)
    (A : Option Addr) (n c : Nat) (xs : List Value) (hs : a.eval s = .slice A n c) (hown : Own w B e size A n c xs)
    (AD : Option Addr) (m cx : Nat) (news : List Value) (hx : a.eval x = .slice AD m cx) (hr : Rd w w.heap.size size AD m news) (h1 : ∀ u ∈ news, u.oneCell' = true)
    (h63 : n + m ≤ maxLen) (hbytes : (n + m) * bytes ≤ 140737488355328) (hB : B ≤ w.heap.size)
    (h : ∀ A' c' w', Own w' B e size A' (n + m) c' (xs ++ news) → w.grownBy w' (blk A) → (A' = A ∨ blk A' = some w.heap.size) → (A' = none → A = none) → K (a.put o.dst (.slice A' (n + m) c')) w') :
    if Region.wanted o (yielded ops a.tmps) = true then Oper.wp P o a w K Q else E := by
  have hw : Region.wanted o (yielded ops a.tmps) = true := by simp [Region.wanted, hgd]
  rw [if_pos hw]
  obtain ⟨A', c', w', hrun, h2, h3, h4, h5⟩ := run_append_own_any (P := P) w B t o.type e i z size bytes ht hi hz hsize hby hzs hsz A n c xs hown AD m cx news _ hr h1 h63 hbytes hB
  unfold Oper.wp execOp
  simp only [ho, resolve, invoke, builtin, Sem.run_bind, Sem.run_pure, Result.andThen_ok, List.map_toArray, List.map_cons, List.map_nil, hs, hx, hrun]
  exact h A' c' w' h2 h3 h4 h5
end
end Go.Proofs.YtablbagdnmbbfaaGreat

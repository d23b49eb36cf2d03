/- Maps of the call's own, as lists of keys with values, in the order in which they came. No program is walked here. -/
import Derived.Test.YtakolnmoieiicaaGreatBase
import Derived.Maps.OwnSet
import Derived.DeepKeys4
namespace Go.Proofs.YtakolnmoieiicaaGreat
set_option linter.unusedSimpArgs false
set_option linter.unusedVariables false
open Go.RowKit
open Go.Maps (Keyed)
open Go.ChangeMaps (setBlock heap_setBlock_same)

/-- Block b is a map with the entries m, each key such as the law of its type tells of. -/
def MapAt (w : World) (P : Program) (b : Nat) (k : TypeId) (m : List (Value × Value)) : Prop :=
  ∃ es clock, w.heap[b]? = some (.map es clock) ∧ es.toList.map (fun e => (e.key, e.val)) = m ∧ ∀ e ∈ es.toList, ∃ l, keyOf P k e.key = some l

section
variable {P : Program} {w w' : World} {b : Nat} {k : TypeId} {m : List (Value × Value)}
theorem MapAt.new (w : World) (P : Program) (k : TypeId) : MapAt (w.alloc (.map #[] 0)) P w.heap.size k [] := ⟨#[], 0, heap_alloc_new w _, rfl, by simp⟩
theorem MapAt.keep (h : MapAt w P b k m) (hb : w'.heap[b]? = w.heap[b]?) : MapAt w' P b k m := by
  obtain ⟨es, clock, h1, h2, h3⟩ := h
  exact ⟨es, clock, hb.trans h1, h2, h3⟩
theorem MapAt.lt (h : MapAt w P b k m) : b < w.heap.size := by
  obtain ⟨es, clock, h1, _⟩ := h
  exact lt_heap h1
theorem MapAt.alloc (h : MapAt w P b k m) (o : Obj) : MapAt (w.alloc o) P b k m := h.keep (Below.heap_alloc w o b h.lt)
theorem MapAt.below {C : Nat} (h : MapAt w P b k m) (hb : Below C w w') (hC : b < C) : MapAt w' P b k m := h.keep (hb.block b hC)
theorem MapAt.call (h : MapAt w P b k m) (hb : Below w.heap.size w w') : MapAt w' P b k m := h.keep (hb.block b h.lt)
theorem MapAt.setCell (h : MapAt w P b k m) {p : Addr} (hp : b ≠ p.block) (u : Value) : MapAt (w.setCell p u) P b k m := h.keep (Below.heap_setCell _ _ _ _ hp)
theorem MapAt.grown (h : MapAt w P b k m) {row : Option Nat} (hg : w.grownBy w' row) (hne : some b ≠ row) : MapAt w' P b k m := h.keep (hg.block b h.lt hne)

/-- What a store does: the key had its place, or comes behind all others. -/
inductive Put (m : List (Value × Value)) (key val : Value) : List (Value × Value) → Prop
  | there (j : Nat) (v : Value) : m[j]? = some (key, v) → Put m key val (m.set j (key, val))
  | new : (∀ p ∈ m, p.1 ≠ key) → Put m key val (m ++ [(key, val)])

theorem MapAt.update {t e : TypeId} (h : MapAt w P b k m) (K : Keyed P k) (ht : P.underlying t = some (.map k e)) {key val : Value} {kl : Lit} (hkey : keyOf P k key = some kl) :
    ∃ w' m', (Instr.mapUpdate t (.map (some b)) key val).run P w = .ok () w' ∧ Put m key val m' ∧ MapAt w' P b k m' ∧ w.grownBy w' (some b) := by
  obtain ⟨es, clock, hb, rfl, hks⟩ := h
  have hgr : ∀ o, w.grownBy (setBlock w b o) (some b) := fun o =>
    ⟨rfl, rfl, rfl, by simp [setBlock], fun i _ hi => by
      simp only [setBlock]
      rw [Array.getElem?_setIfInBounds, if_neg (fun e => hi (by rw [e]))]⟩
  rcases K.find w hkey es.toList hks with ⟨h1, h2⟩ | ⟨j, e0, h1, h2, h3⟩
  · refine ⟨setBlock w b (.map (es.push ⟨key, val, clock⟩) (clock + 1)), _, ?_, .new ?_, ⟨_, _, heap_setBlock_same hb _, by simp, ?_⟩, hgr _⟩
    · simp [Instr.mapUpdate, run_underlying ht, MapKept.run_getObj_map hb, K.check w false hkey, h1, MapKept.run_setObj_map _ hb, Result.andThen, setBlock]
    · intro p hp
      obtain ⟨x, hx, rfl⟩ := List.mem_map.1 hp
      exact h2 x hx
    · intro x hx
      simp only [Array.toList_push, List.mem_append, List.mem_singleton] at hx
      rcases hx with hx | rfl
      · exact hks x hx
      · exact ⟨kl, hkey⟩
  · have hj : es[j]? = some e0 := by rw [← Array.getElem?_toList]; exact h2
    have hjlt : j < es.size := (Array.getElem?_eq_some_iff.1 hj).1
    refine ⟨setBlock w b (.map (es.modify j fun e => { e with key := key, val := val }) clock), _, ?_, .there j e0.val ?_, ⟨_, _, heap_setBlock_same hb _, ?_, ?_⟩, hgr _⟩
    · simp [Instr.mapUpdate, run_underlying ht, MapKept.run_getObj_map hb, K.check w false hkey, h1, hj, h3, K.stays w hkey, MapKept.run_setObj_map _ hb, Result.andThen, setBlock]
    · rw [List.getElem?_map, h2]; simp [h3]
    · apply List.ext_getElem?
      intro i
      rw [List.getElem?_map, Array.getElem?_toList, Array.getElem?_modify, List.getElem?_set, List.getElem?_map, Array.getElem?_toList]
      by_cases e : j = i
      · subst e
        simp [hj, hjlt]
      · simp [e]
    · intro x hx
      obtain ⟨i, hi, hxi⟩ := List.mem_iff_getElem.1 hx
      have hx' : (es.modify j fun e => { e with key := key, val := val })[i]? = some x := by
        rw [← Array.getElem?_toList, List.getElem?_eq_getElem hi, hxi]
      rw [Array.getElem?_modify] at hx'
      split at hx'
      · cases hq : es[i]? with
        | none => rw [hq] at hx'; simp at hx'
        | some q =>
          rw [hq] at hx'
          simp at hx'
          subst hx'
          exact ⟨kl, hkey⟩
      · exact hks x (by rw [Array.mem_toList_iff]; exact Array.mem_of_getElem? hx')

/-- What a look-up says. -/
inductive Look (m : List (Value × Value)) (key z : Value) : Value → Bool → Prop
  | there (j : Nat) (v : Value) : m[j]? = some (key, v) → Look m key z v true
  | none : (∀ p ∈ m, p.1 ≠ key) → Look m key z z false
theorem MapAt.look {t e : TypeId} (h : MapAt w P b k m) (K : Keyed P k) (ht : P.underlying t = some (.map k e)) {z : Value} (hz : (zeroValue e).run P w = .ok z w) {key : Value} {kl : Lit} (hkey : keyOf P k key = some kl) (c : Bool) :
    ∃ v ok, (Instr.lookup t (.map (some b)) key c).run P w = .ok (if c then .tuple #[v, .bool ok] else v) w ∧ Look m key z v ok := by
  obtain ⟨es, clock, hb, rfl, hks⟩ := h
  rcases K.find w hkey es.toList hks with ⟨h1, h2⟩ | ⟨j, e0, h1, h2, h3⟩
  · refine ⟨z, false, by simp [Instr.lookup, run_underlying ht, MapKept.run_getObj_map hb, K.check w _ hkey, h1, hz, Result.andThen], .none ?_⟩
    intro p hp
    obtain ⟨x, hx, rfl⟩ := List.mem_map.1 hp
    exact h2 x hx
  · refine ⟨e0.val, true, by simp [Instr.lookup, run_underlying ht, MapKept.run_getObj_map hb, K.check w _ hkey, h1, Result.andThen], .there j e0.val ?_⟩
    rw [List.getElem?_map, h2]; simp [h3]
theorem MapAt.len {t e : TypeId} (h : MapAt w P b k m) (ht : P.underlying t = some (.map k e)) (ty : TypeId) : (Builtin.len_ #[t] ty #[.map (some b)]).run P w = .ok (.int .i64 m.length) w := by
  obtain ⟨es, clock, hb, rfl, hks⟩ := h
  simp [Builtin.len_, run_underlying ht, MapKept.run_getObj_map hb, goInt, Result.andThen]
end

section
variable {P : Program} {w : World} {b : Nat} {k : TypeId} {m : List (Value × Value)} {ops : Array Oper} {rest : List Oper} {o : Oper} {a : Act} {Q : Exit → Act → World → Prop}
theorem wpList_mapput (hg : o.guard = none) (mo x v : Operand) (t : TypeId) (hop : o.op = Op.mapUpdate t mo x v) (e : TypeId) (K : Keyed P k) (ht : P.underlying t = some (.map k e)) (hm : a.eval mo = .map (some b)) (h : MapAt w P b k m)
    (key val : Value) (kl : Lit) (hx : a.eval x = key) (hv : a.eval v = val) (hkey : keyOf P k key = some kl)
    (hK : ∀ w' m', Put m key val m' → MapAt w' P b k m' → w.grownBy w' (some b) → wpList P ops Q rest (a.put o.dst undef) w') : wpList P ops Q (o :: rest) a w := by
  refine wpList_plain hg fun K' hK' => ?_
  obtain ⟨w', m', hrun, r1, r2, r3⟩ := h.update (val := val) K ht hkey
  unfold Oper.wp
  simp [execOp, hop, hm, hx, hv, hrun, Result.andThen]
  exact hK' _ _ (hK w' m' r1 r2 r3)
theorem wpList_maplook_ok (hg : o.guard = none) (mo x : Operand) (t : TypeId) (hop : o.op = Op.lookup t mo x true) (e : TypeId) (K : Keyed P k) (ht : P.underlying t = some (.map k e)) (hm : a.eval mo = .map (some b)) (h : MapAt w P b k m)
    (z : Value) (hz : (zeroValue e).run P w = .ok z w) (key : Value) (kl : Lit) (hx : a.eval x = key) (hkey : keyOf P k key = some kl)
    (hK : ∀ v ok, Look m key z v ok → wpList P ops Q rest (a.put o.dst (.tuple #[v, .bool ok])) w) : wpList P ops Q (o :: rest) a w := by
  refine wpList_plain hg fun K' hK' => ?_
  obtain ⟨v, ok, hrun, r1⟩ := h.look K ht hz hkey true
  unfold Oper.wp
  simp [execOp, hop, hm, hx, hrun, Result.andThen]
  exact hK' _ _ (hK v ok r1)
theorem wpList_maplook (hg : o.guard = none) (mo x : Operand) (t : TypeId) (hop : o.op = Op.lookup t mo x false) (e : TypeId) (K : Keyed P k) (ht : P.underlying t = some (.map k e)) (hm : a.eval mo = .map (some b)) (h : MapAt w P b k m)
    (z : Value) (hz : (zeroValue e).run P w = .ok z w) (key : Value) (kl : Lit) (hx : a.eval x = key) (hkey : keyOf P k key = some kl)
    (hK : ∀ v ok, Look m key z v ok → wpList P ops Q rest (a.put o.dst v) w) : wpList P ops Q (o :: rest) a w := by
  refine wpList_plain hg fun K' hK' => ?_
  obtain ⟨v, ok, hrun, r1⟩ := h.look K ht hz hkey false
  unfold Oper.wp
  simp [execOp, hop, hm, hx, hrun, Result.andThen]
  exact hK' _ _ (hK v ok r1)
theorem wpList_maplen (hg : o.guard = none) (mo : Operand) (t : TypeId) (hop : o.op = Op.call { callee := Callee.builtin Builtin.len, args := #[mo], argTypes := #[t] }) (e : TypeId) (ht : P.underlying t = some (.map k e)) (hm : a.eval mo = .map (some b)) (h : MapAt w P b k m)
    (hK : wpList P ops Q rest (a.put o.dst (.int .i64 m.length)) w) : wpList P ops Q (o :: rest) a w := by
  refine wpList_plain hg fun K' hK' => ?_
  unfold Oper.wp
  simp [execOp, hop, resolve, invoke, builtin, hm, h.len ht o.type, Result.andThen]
  exact hK' _ _ hK
end

/-! ### Sets of keys -/
section
variable {α : Type} [DecidableEq α]
/-- The members of a list, each once, behind those that are there. -/
def onceFrom (acc : List α) : List α → List α
  | [] => acc
  | x :: r => onceFrom (if x ∈ acc then acc else acc ++ [x]) r
def once (l : List α) : List α := onceFrom [] l
theorem onceFrom_append (acc l m : List α) : onceFrom acc (l ++ m) = onceFrom (onceFrom acc l) m := by
  induction l generalizing acc with
  | nil => rfl
  | cons x r ih => simp only [List.cons_append, onceFrom]; exact ih _
theorem once_snoc (l : List α) (x : α) : once (l ++ [x]) = if x ∈ once l then once l else once l ++ [x] := by
  unfold once; rw [onceFrom_append]; rfl
theorem mem_onceFrom {acc l : List α} {y : α} : y ∈ onceFrom acc l ↔ y ∈ acc ∨ y ∈ l := by
  induction l generalizing acc with
  | nil => simp [onceFrom]
  | cons x r ih =>
    simp only [onceFrom]
    rw [ih]
    by_cases h : x ∈ acc
    · rw [if_pos h]
      constructor
      · rintro (h' | h')
        · exact .inl h'
        · exact .inr (by simp [h'])
      · rintro (h' | h')
        · exact .inl h'
        · rcases List.mem_cons.1 h' with rfl | h'
          · exact .inl h
          · exact .inr h'
    · rw [if_neg h]; simp [or_assoc]
theorem mem_once {l : List α} {y : α} : y ∈ once l ↔ y ∈ l := by unfold once; rw [mem_onceFrom]; simp
theorem len_onceFrom (acc l : List α) : (onceFrom acc l).length ≤ acc.length + l.length ∧ ((onceFrom acc l).length = acc.length + l.length ↔ l.Nodup ∧ ∀ x ∈ l, x ∉ acc) := by
  induction l generalizing acc with
  | nil => simp [onceFrom]
  | cons x r ih =>
    simp only [onceFrom]
    by_cases h : x ∈ acc
    · rw [if_pos h]
      have := (ih acc).1
      refine ⟨by simp; omega, ⟨fun e => ?_, fun e => absurd h (e.2 x (by simp))⟩⟩
      simp at e; omega
    · rw [if_neg h]
      obtain ⟨h1, h2⟩ := ih (acc ++ [x])
      simp only [List.length_append, List.length_cons, List.length_nil] at h1 h2 ⊢
      refine ⟨by omega, ?_⟩
      rw [show acc.length + (r.length + 1) = acc.length + (0 + 1) + r.length from by omega, h2, List.nodup_cons]
      constructor
      · rintro ⟨hn, hx⟩
        exact ⟨⟨fun hm => hx x hm (by simp), hn⟩, fun y hy => by
          rcases List.mem_cons.1 hy with rfl | hy
          · exact h
          · exact fun hm => hx y hy (by simp [hm])⟩
      · rintro ⟨⟨hxr, hn⟩, hx⟩
        refine ⟨hn, fun y hy hm => ?_⟩
        simp at hm
        rcases hm with hm | rfl
        · exact hx y (by simp [hy]) hm
        · exact hxr hy
theorem once_len (l : List α) : (once l).length ≤ l.length ∧ ((once l).length = l.length ↔ l.Nodup) := by
  have := len_onceFrom [] l
  simpa [once] using this
end
/-- A set of keys behind a store. -/
theorem Put.keys {α : Type} [DecidableEq α] {f : α → Value} (hf : ∀ a b, f a = f b → a = b) {l : List α} {x : α} {u : Value} {m' : List (Value × Value)} (h : Put ((once l).map fun a => (f a, u)) (f x) u m') :
    m' = (once (l ++ [x])).map fun a => (f a, u) := by
  rw [once_snoc]
  cases h with
  | there j v hj =>
    rw [List.getElem?_map] at hj
    cases hq : (once l)[j]? with
    | none => rw [hq] at hj; simp at hj
    | some a =>
      rw [hq] at hj
      simp at hj
      have hax := hf _ _ hj.1
      subst hax
      rw [if_pos (List.mem_of_getElem? hq)]
      apply List.ext_getElem?
      intro i
      rw [List.getElem?_set, List.getElem?_map]
      by_cases e : j = i
      · subst e
        have hlt : j < (once l).length := (List.getElem?_eq_some_iff.1 hq).1
        rw [hq]
        simp [hlt]
      · simp [e]
  | new hn =>
    rw [if_neg (fun hm => hn (f x, u) (List.mem_map.2 ⟨x, hm, rfl⟩) rfl)]
    simp
end Go.Proofs.YtakolnmoieiicaaGreat

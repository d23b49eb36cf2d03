/- A range over a function of the program's: what an iterator promises, and the law of the statement. No program is walked here. -/
import Derived.Test.YtidmpfenkgihjaaDoorBase
import Derived.RangeFuncNested
import Derived.RangeFuncBound
import Derived.RangeFuncCalls
import Derived.RangeFuncLeaves
import Derived.RangeFuncKeeps
import Derived.OwnWalkIn
namespace Go.Proofs.YtidmpfenkgihjaaDoor
set_option linter.unusedSimpArgs false
set_option linter.unusedVariables false
open Go.RowKit

section
variable {β γ : Type}
/-- The iterator value '.func gf' with lb: called at the yield of any loop, it hands over xs, one by one; between two rounds it turns nothing that was there; of a round it asks that it keeps Kp. -/
def IterK (gf : Nat) (lb : Array Value) (enc : γ → Array Value) (Pre : β → γ → World → Prop) (Kp : World → World → Prop) (xs : List β) (N n0 : Nat) (w0 : World) : Prop :=
  ∀ (l : Nat) (J : List β → World → Prop) (W : World), Below w0.heap.size w0 W → (∀ L W1 W2, J L W1 → Below W1.heap.size W1 W2 → J L W2) → (∀ L W1, J L W1 → Below n0 w0 W1) →
    (∀ (L : List β) (q : β) (g : γ) (W1 : World), J L W1 → Pre q g W1 → L.length < N → YieldAt Fence.wide 2 Tryd.prog l (enc g) W1 fun e W2 => e = .returned (.bool true) ∧ J (L ++ [q]) W2 ∧ Kp W1 W2) → J [] W →
    CallsIn Fence.wide 3 Tryd.prog gf (#[.func (.yield l) #[] #[]] ++ lb) W fun e W2 => (∃ v, e = .returned v) ∧ J xs W2
theorem IterK.weak {gf : Nat} {lb : Array Value} {enc : γ → Array Value} {Pre Pre' : β → γ → World → Prop} {Kp : World → World → Prop} {xs : List β} {N n0 : Nat} {w0 : World} (a : IterK gf lb enc Pre Kp xs N n0 w0) (h : ∀ q g W, Pre q g W → Pre' q g W) : IterK gf lb enc Pre' Kp xs N n0 w0 :=
  fun l J W hW hJ hJb hY h0 => a l J W hW hJ hJb (fun L q g W1 hj hp hN => hY L q g W1 hj (h _ _ _ hp) hN) h0
/-- What the caller keeps may stand beside a loop's record. -/
structure IterI (I : List β → World → Prop) (Pre : β → γ → World → Prop) (Kp : World → World → Prop) (n0 : Nat) (w0 w : World) : Prop where
  keep : ∀ L W W', I L W → Below W.heap.size W W' → I L W'
  rec_ : ∀ L W l r o, I L W → w.heap.size ≤ l → W.heap[l]? = some (.loop r) → I L (W.putObj l o)
  base : ∀ L W, I L W → Below n0 w0 W
  pre : ∀ q g W l r o, Pre q g W → w.heap.size ≤ l → W.heap[l]? = some (.loop r) → Pre q g (W.putObj l o)
  trans : ∀ A B C, Kp A B → Kp B C → Kp A C
  kp : ∀ W l r o, w.heap.size ≤ l → W.heap[l]? = some (.loop r) → Kp W (W.putObj l o)
/-- Behind a round's body. -/
def iterPost (Kp : World → World → Prop) (I : List β → World → Prop) (L : List β) (W : World) (e : Exit) (_ : Act) (W' : World) : Prop := e = .normal ∧ KeepsOthers W W' ∧ Kp W W' ∧ I L W'
/-- **The law of the statement.** -/
theorem wp_iter {g : Operand} {ps : Array Tmp} {assign body : Code} {Q : Exit → Act → World → Prop} {a : Act} {w : World} {gf : FuncId} {lb : Array Value} {enc : γ → Array Value} {Pre : β → γ → World → Prop} {Kp : World → World → Prop} {xs : List β} {N m n0 : Nat} {w0 : World}
    (hg : a.eval g = .func (.func gf) #[] lb) (eg : ∀ (W : World) (args : Array Value), Sem.run Tryd.prog (callFunc gf args) W = Result.ok (Next.enter gf args) W) (hit : IterK gf lb enc Pre Kp xs N n0 w0) (hb0 : Below w0.heap.size w0 w) (hps : ∀ x, (enc x).size = ps.size)
    (I : List β → World → Prop) (hI : IterI I Pre Kp n0 w0 w) (h0 : I [] w) (a₁ : γ → Act)
    (hassign : ∀ (l : Nat) (x : γ) (W : World) (K : Act → World → Prop), K (a₁ x) W → assign.wpIn (Fence.wide.inRound l) 2 Tryd.prog (Exit.then K (fun _ _ _ => False)) { tmps := (ps.zip (enc x)).foldl (fun t (p, v) => t.setIfInBounds p v) a.tmps, defers := [] } W)
    (hbody : ∀ (l : Nat) (L : List β) (q : β) (x : γ) (W : World), I L W → Pre q x W → L.length < N → body.wpIn (Fence.wide.inRound l) 2 Tryd.prog (iterPost Kp I (L ++ [q]) W) (a₁ x) W)
    (hdone : ∀ (W : World), I xs W → W.heap[w.heap.size]? = some (.deferred (some [])) → Q .normal { a with defers := [{ target := .collected w.heap.size, args := #[] }] ++ a.defers } W) :
    (Code.rangeFunc g ps assign body).wpIn Fence.wide m Tryd.prog Q a w := by
  refine wpIn_rangeFunc fun fn hfn => ?_
  rw [show Fence.wide.round = none from rfl]
  obtain ⟨rec, hrec⟩ : ∃ rec : Loop, rec = { state := .ready, pending := none, fn, tmps := a.tmps, params := ps, assign, body, defers := w.heap.size } := ⟨_, rfl⟩
  obtain ⟨W1, hW1⟩ : ∃ W1, W1 = (w.alloc (.deferred (some []))).alloc (.loop rec) := ⟨_, rfl⟩
  have hbw : Below w.heap.size w W1 := by rw [hW1]; exact ((Below.refl _ w).alloc (Nat.le_refl _) _).alloc (by simp) _
  have hl1 : W1.heap[w.heap.size + 1]? = some (.loop rec) := by
    rw [hW1]; have := World.alloc_heap_new (w.alloc (.deferred (some []))) (.loop rec); rwa [World.size_alloc] at this
  have hd1 : W1.heap[w.heap.size]? = some (.deferred (some [])) := by
    rw [hW1]; exact (Below.heap_alloc _ _ _ (by simp)).trans (World.alloc_heap_new w _)
  refine ⟨w.heap.size + 1, [{ target := .collected w.heap.size, args := #[] }], W1, { target := .fn (.func gf) lb, args := #[.func (.yield (w.heap.size + 1)) #[] #[]] }, W1, gf, #[.func (.yield (w.heap.size + 1)) #[] #[]] ++ lb, W1, ?_, ?_, fun _ _ => trivial, ?_, (fun h => absurd h (by decide)), ?_⟩
  · rw [hW1, hrec]; exact run_enterLoop_outer _ _ _ _ _
  · simp only [resolve, hg]; simp [go_sem]
  · simp only [invoke]; exact eg _ _
  refine callsIn_wide.2 (callsIn_wide.1 ((hit (w.heap.size + 1) (fun L W => I L W ∧ W.heap[w.heap.size + 1]? = some (.loop rec) ∧ W.heap[w.heap.size]? = some (.deferred (some []))) W1 (since_trans hb0 hbw)
    (fun L A B ⟨i, hl, hd⟩ hb => ⟨hI.keep L A B i hb, (hb.block _ (Array.getElem?_eq_some_iff.1 hl).1).trans hl, (hb.block _ (Array.getElem?_eq_some_iff.1 hd).1).trans hd⟩) (fun L A i => hI.base L A i.1) ?_ ⟨hI.keep _ _ _ h0 hbw, hl1, hd1⟩).mono ?_))
  · rintro L q x A ⟨i, hl, hd⟩ hpre hLN
    have hlt := (Array.getElem?_eq_some_iff.1 hl).1
    have hy := run_yield (P := Tryd.prog) (args := enc x) hl (by rw [hrec]; exact hps x)
    rw [hrec] at hy
    refine ⟨fn, _, assign, body, hy, roundIn_of_wpIn trivial (hassign _ x A _ ⟨_, run_beginRound hl (by rw [hrec]), ?_⟩)⟩
    obtain ⟨B, hB⟩ : ∃ B, B = A.putObj (w.heap.size + 1) (.loop { rec with state := .busy }) := ⟨_, rfl⟩
    rw [← hB]
    have hlB : B.heap[w.heap.size + 1]? = some (.loop { rec with state := .busy }) := by rw [hB]; exact World.putObj_heap_same hlt
    have hdB : B.heap[w.heap.size]? = some (.deferred (some [])) := by rw [hB]; exact (World.putObj_heap_other (by omega)).trans hd
    have hkB : Kp A B := by rw [hB]; exact hI.kp _ _ _ _ (by omega) hl
    refine wpIn_mono (hbody _ L q x B (by rw [hB]; exact hI.rec_ _ _ _ _ _ i (by omega) hl) (by rw [hB]; exact hI.pre _ _ _ _ _ _ hpre (by omega) hl) hLN) ?_
    rintro e a3 C ⟨rfl, ko, kp, ic⟩
    have hlC := ko.same _ _ hlB rfl
    refine ⟨_, _, run_endRound (P := Tryd.prog) none hlC, rfl, ⟨hI.rec_ _ _ _ _ _ ic (by omega) hlC, ?_, (World.putObj_heap_other (by omega)).trans (ko.same _ _ hdB rfl)⟩, hI.trans _ _ _ (hI.trans _ _ _ hkB kp) (hI.kp _ _ _ _ (by omega) hlC)⟩
    have h2 := World.putObj_heap_same (o := .loop { rec with state := .ready, pending := none }) (Array.getElem?_eq_some_iff.1 hlC).1
    rw [hrec] at h2 ⊢
    exact h2
  · rintro e C ⟨⟨v, rfl⟩, i, hl, hd⟩
    have he := run_endLoop (P := Tryd.prog) hl (by rw [hrec]; simp)
    rw [show rec.pending = none from by rw [hrec]] at he
    exact ⟨none, _, he, hdone _ (hI.rec_ _ _ _ _ _ i (by omega) hl) ((World.putObj_heap_other (by omega)).trans hd)⟩
def noDefer (l : List Oper) : Bool := l.all fun o => match o.op with | .defer _ => false | _ => true
theorem noDefer_at {l : List Oper} (h : noDefer l = true) : ∀ (i : Nat) (o : Oper), l.toArray[i]? = some o → ∀ c, o.op ≠ .defer c := by
  intro i o hi c e
  have h1 := List.all_eq_true.1 h o (List.mem_of_getElem? (by simpa using hi))
  rw [e] at h1
  cases h1
/-- The laws of a region that draws its order inside a fence, over the list of its operations. -/
theorem take_in {F : Fence} {n : Nat} {P : Program} {Q : Exit → Act → World → Prop} {md : Region.Mode} {l : List Oper} {i : Nat} {oi : Oper} {v : Value} {fuel : Nat} {listed : Array Bool} {a : Act} {w : World} (hro : F.round = none) (hi : l[i]? = some oi)
    (hs : Region.noSelect l.toArray = true) (hf : Region.free md l.toArray listed i = true) (hr : (Region.ready md l.toArray listed).contains i = true)
    (hQ : ∀ c a w, Q (.panic c) (a.put oi.dst v) w → Q (.panic c) a w) (hy : YieldsFenced P l.toArray oi v a)
    (h : wpAnyIn F n P md l.toArray Q fuel (listed.setIfInBounds i true) (a.put oi.dst v) w) : wpAnyIn F n P md l.toArray Q (fuel + 1) listed a w :=
  wpAnyIn_take hro (by simpa using hi) hs hf hr hQ hy h
theorem cons_in {F : Fence} {n : Nat} {P : Program} {Q : Exit → Act → World → Prop} {md : Region.Mode} {l : List Oper} {fuel : Nat} {listed : Array Bool} {a : Act} {w : World} {i : Nat} {o : Oper} {rs : List Nat} (ho : l[i]? = some o) (hab : ∀ f, o.about P w a.eval = some f → F.fn f) (hdf : ∀ c, o.op ≠ .defer c) (hw : Region.wanted o (yielded l.toArray a.tmps) = true)
    (h : ∀ K' : Act → World → Prop, (∀ a w, wpAnyIn F n P md l.toArray Q fuel (listed.setIfInBounds i true) a w → K' a w) → o.uponIn F n P a K' Q ((execOp a.eval o).run P w))
    (hs : AllReadyIn F n P md l.toArray Q fuel listed a w rs) : AllReadyIn F n P md l.toArray Q fuel listed a w (i :: rs) :=
  AllReadyIn.cons (by simpa using ho) (fun K hK => by
    rw [if_pos hw]
    refine ⟨hab, ?_⟩
    rw [Oper.semAt_plain F _ _ hdf]
    exact h K hK) hs
/-- An operation that defers nothing is in a round what it is elsewhere. -/
theorem wpOps_round {P : Program} {n l : Nat} {ops : Array Oper} {Q : Exit → Act → World → Prop} (hd : ∀ (i : Nat) (o : Oper), ops[i]? = some o → ∀ c, o.op ≠ .defer c) : ∀ (t : List Nat) (a : Act) (w : World), wpOpsIn Fence.wide n P ops Q t a w → wpOpsIn (Fence.wide.inRound l) n P ops Q t a w
  | [], _, _, h => h
  | i :: t, a, w, h => by
    rw [wpOpsIn_cons] at h ⊢
    unfold wpOpIn at h ⊢
    cases hi : ops[i]? with
    | none => rw [hi] at h; exact wpOps_round hd t a w h
    | some o =>
      rw [hi] at h
      simp only at h ⊢
      split
      · rename_i hw
        rw [if_pos hw] at h
        have h2 := Oper.wpIn_mono (fun a w h => wpOps_round (l := l) hd t a w h) h
        refine ⟨h2.1, ?_⟩
        have h3 := h2.2
        rw [Oper.semAt_plain Fence.wide _ _ (hd i o hi)] at h3
        rw [Oper.semAt_plain _ _ _ (hd i o hi)]
        exact h3
      · rename_i hw
        rw [if_neg hw] at h
        exact ⟨h.1, wpOps_round hd t _ w h.2⟩
theorem wpIn_region_round {P : Program} {n l id : Nat} {ops : Array Oper} {Q : Exit → Act → World → Prop} {a : Act} {w : World} (hm : P.follows .mixedOrders = true) (hd : ∀ (i : Nat) (o : Oper), ops[i]? = some o → ∀ c, o.op ≠ .defer c)
    (h : wpAnyIn Fence.wide n P .any ops Q ops.size (Array.replicate ops.size false) a w.drew) : (Code.region id ops true).wpIn (Fence.wide.inRound l) n P Q a w :=
  wpIn_region_draw fun t => by
    simp only [Region.schedule, hm, Bool.true_or, if_true]
    exact wpOps_round hd _ _ _ (wpAnyIn_sound ops.size t _ a _ h)
/-- 'append' to a slice of the call's own, as an arm of the walk inside a fence. -/
theorem wpListIn_app {F : Fence} {n0 : Nat} {P : Program} (w : World) {ops : Array Oper} {rest : List Oper} {o : Oper} {a : Act} {Q : Exit → Act → World → Prop} (hgd : o.guard = none) (s x : Operand) (t : TypeId)
    (ho : o.op = .call { callee := .builtin .append, args := #[s, x], argTypes := #[t, t] })
    (B : Nat) (e : TypeId) (i : TypeInfo) (z : Value) (size bytes : Nat) (ht : P.underlying t = some (.slice e)) (hi : P.info? e = some i) (hz : i.zero = some z)
    (hsize : i.size = size) (hby : i.bytes = bytes) (hzs : z.cells.size = size) (hsz : 0 < size)
    (A : Option Addr) (n c : Nat) (xs : List Value) (hs : a.eval s = .slice A n c) (hown : Own w B e size A n c xs)
    (AD : Option Addr) (m cx : Nat) (news : List Value) (hx : a.eval x = .slice AD m cx) (hr : Rd w w.heap.size size AD m news) (h1 : ∀ u ∈ news, u.oneCell' = true)
    (h63 : n + m ≤ maxLen) (hbytes : (n + m) * bytes ≤ 140737488355328) (hB : B ≤ w.heap.size)
    (h : ∀ A' c' w', Own w' B e size A' (n + m) c' (xs ++ news) → w.grownBy w' (blk A) → (A' = A ∨ blk A' = some w.heap.size) → (A' = none → A = none) → wpListIn F n0 P ops Q rest (a.put o.dst (.slice A' (n + m) c')) w') :
    wpListIn F n0 P ops Q (o :: rest) a w := by
  refine wpListIn_plain hgd fun K hK => ?_
  obtain ⟨A', c', w', hrun, h2, h3, h4, h5⟩ := run_append_own_any (P := P) w B t o.type e i z size bytes ht hi hz hsize hby hzs hsz A n c xs hown AD m cx news _ hr h1 h63 hbytes hB
  unfold Oper.wpIn
  refine ⟨?_, ?_⟩
  · simp [Oper.about, ho, resolve, Target.leads, Sem.run_pure]
  · rw [Oper.semAt_plain F _ _ (by rw [ho]; intro c hc'; cases hc')]
    simp [execOp, ho, resolve, invoke, builtin, hs, hx, hrun, Result.andThen]
    exact hK _ _ (h A' c' w' h2 h3 h4 h5)
theorem Own.putLoop {W : World} {B e s n c l : Nat} {A : Option Addr} {xs : List Value} {r : Loop} (h : Own W B e s A n c xs) (hl : W.heap[l]? = some (.loop r)) (o : Obj) : Own (W.putObj l o) B e s A n c xs := by
  obtain ⟨h1, h2, h3, h4, hb, h5⟩ := h
  refine ⟨h1, h2, h3, h4, hb, fun hc => ?_⟩
  obtain ⟨g, off, cur, rfl, hh, r⟩ := h5 hc
  refine ⟨g, off, cur, rfl, (World.putObj_heap_other (fun e => ?_)).trans hh, r⟩
  subst e; rw [hh] at hl; cases hl
theorem Own.putNo {W : World} {B e s n c l : Nat} {A : Option Addr} {xs : List Value} {ob : Obj} (h : Own W B e s A n c xs) (hl : W.heap[l]? = some ob) (hno : ob.isCells = false) (o : Obj) : Own (W.putObj l o) B e s A n c xs := by
  obtain ⟨h1, h2, h3, h4, hb, h5⟩ := h
  refine ⟨h1, h2, h3, h4, hb, fun hc => ?_⟩
  obtain ⟨g, off, cur, rfl, hh, r⟩ := h5 hc
  refine ⟨g, off, cur, rfl, (World.putObj_heap_other (fun e => ?_)).trans hh, r⟩
  subst e; rw [hh] at hl; injection hl with hl; subst hl; cases hno
theorem below_putLoop {n l : Nat} {w W : World} (h : Below n w W) (hn : n ≤ l) (o : Obj) : Below n w (W.putObj l o) :=
  ⟨h.os, h.tape, h.output, by simpa [World.putObj] using h.size, fun k hk => (World.putObj_heap_other (by omega)).trans (h.block k hk)⟩
end
end Go.Proofs.YtidmpfenkgihjaaDoor

/- The walks of slices.AppendSeq and slices.Collect at lists of numbers, and of short.Ways. -/
import Derived.Test.YtlnnmjomdblciaaGreatShortO
import Derived.Test.YtlnnmjomdblciaaGreatIter
namespace Go.Proofs.YtlnnmjomdblciaaGreat
set_option linter.unusedSimpArgs false
set_option linter.unusedVariables false
open Go.RowKit

section
/-- 'append' to a slice of the call's own, as an arm of the walk inside a fence. -/
theorem wpListIn_app {F : Fence} {n0 : Nat} {P : Program} (w : World) {ops : Array Oper} {rest : List Oper} {o : Oper} {a : Act} {Q : Exit → Act → World → Prop} (hgd : o.guard = none) (s x : Operand) (t : TypeId)
    (ho : o.op = .call { callee := .builtin .append, args := #[s, x], argTypes := #[t, t] })
    (B : Nat) (e : TypeId) (i : TypeInfo) (z : Value) (size bytes : Nat) (ht : P.underlying t = some (.slice e)) (hi : P.info? e = some i) (hz : i.zero = some z)
    (hsize : i.size = size) (hby : i.bytes = bytes) (hzs : z.cells.size = size) (hsz : 0 < size)
    (A : Option Addr) (n c : Nat) (xs : List Value) (hs : a.eval s = .slice A n c) (hown : Own w B e size A n c xs)
    (AD : Option Addr) (m cx : Nat) (news : List Value) (hx : a.eval x = .slice AD m cx) (hr : Rd w w.heap.size size AD m news) (h1 : ∀ u ∈ news, u.oneCell' = true)
    (h63 : n + m ≤ maxLen) (hbytes : (n + m) * bytes ≤ 140737488355328) (hB : B ≤ w.heap.size)
    (h : ∀ A' c' w', Own w' B e size A' (n + m) c' (xs ++ news) → w.grownBy w' (blk A) → (A' = A ∨ blk A' = some w.heap.size) → (A' = none → A = none) → wpListIn F n0 P ops Q rest (a.put o.dst (.slice A' (n + m) c')) w') :
    wpListIn F n0 P ops Q (o :: rest) a w := by
  refine wpListIn_plain hgd fun K hK => ?_
  obtain ⟨A', c', w', hrun, h2, h3, h4, h5⟩ := run_append_own_any (P := P) w B t o.type e i z size bytes ht hi hz hsize hby hzs hsz A n c xs hown AD m cx news _ hr h1 h63 hbytes hB
  unfold Oper.wpIn
  refine ⟨?_, ?_⟩
  · simp [Oper.about, ho, resolve, Target.leads, Sem.run_pure]
  · rw [Oper.semAt_plain F _ _ (by rw [ho]; intro c hc'; cases hc')]
    simp [execOp, ho, resolve, invoke, builtin, hs, hx, hrun, Result.andThen]
    exact hK _ _ (h A' c' w' h2 h3 h4 h5)
/-- A way, and where its numbers lie. -/
abbrev WayZ := List Nat × (Option Addr × Nat)
def wayV (z : WayZ) : Value := .slice z.2.1 z.1.length z.2.2
def WayP (n0 : Nat) (q : List Nat) (z : WayZ) (W : World) : Prop := z.1 = q ∧ q.length ≤ 12 ∧ q ≠ [] ∧ Own W n0 3 1 z.2.1 q.length z.2.2 (nats q)
/-- Ways in memory of the call's own. -/
structure WaysW (n0 : Nat) (B : Nat) (wr : World) (Z : List WayZ) (A : Option Addr) (c : Nat) : Prop where
  row : Own wr B 22 1 A Z.length c (Z.map wayV)
  za : c = 0 → A = none
  each : ∀ z ∈ Z, WayP n0 z.1 z wr
theorem WayP.keepT {n0 m : Nat} {q : List Nat} {z : WayZ} {W W' : World} (h : WayP n0 q z W) (k : KeepT m W W') : WayP n0 q z W' := ⟨h.1, h.2.1, h.2.2.1, h.2.2.2.keepT k⟩
theorem WayP.call {n0 : Nat} {q : List Nat} {z : WayZ} {W W' : World} (h : WayP n0 q z W) (k : Below W.heap.size W W') : WayP n0 q z W' := ⟨h.1, h.2.1, h.2.2.1, h.2.2.2.call k⟩
theorem Tryz.info_row : (Tryz.prog.info? 22).map (fun i => (i.zero, i.size, i.bytes)) = some (some (.slice none 0 0), 1, 24) := by kernel_rfl
/-- What AppendSeq keeps: its box, and the list so far. -/
def ApI (n0 : Nat) (w : World) (L : List (List Nat)) (W : World) : Prop :=
  Below w.heap.size w W ∧ ∃ (Z : List WayZ) (A : Option Addr) (c : Nat), W.heap[w.heap.size]? = some (.cells #[.slice A Z.length c] 44 (0, 0)) ∧ Z.map (·.1) = L ∧ WaysW n0 (w.heap.size + 1) W Z A c
theorem Own.putLoop {W : World} {B e s n c l : Nat} {A : Option Addr} {xs : List Value} {r : Loop} (h : Own W B e s A n c xs) (hl : W.heap[l]? = some (.loop r)) (o : Obj) : Own (W.putObj l o) B e s A n c xs := by
  obtain ⟨h1, h2, h3, h4, hb, h5⟩ := h
  refine ⟨h1, h2, h3, h4, hb, fun hc => ?_⟩
  obtain ⟨g, off, cur, rfl, hh, r⟩ := h5 hc
  refine ⟨g, off, cur, rfl, (World.putObj_heap_other (fun e => ?_)).trans hh, r⟩
  subst e; rw [hh] at hl; cases hl
theorem Own.putNo {W : World} {B e s n c l : Nat} {A : Option Addr} {xs : List Value} {ob : Obj} (h : Own W B e s A n c xs) (hl : W.heap[l]? = some ob) (hno : ob.isCells = false) (o : Obj) : Own (W.putObj l o) B e s A n c xs := by
  obtain ⟨h1, h2, h3, h4, hb, h5⟩ := h
  refine ⟨h1, h2, h3, h4, hb, fun hc => ?_⟩
  obtain ⟨g, off, cur, rfl, hh, r⟩ := h5 hc
  refine ⟨g, off, cur, rfl, (World.putObj_heap_other (fun e => ?_)).trans hh, r⟩
  subst e; rw [hh] at hl; injection hl with hl; subst hl; cases hno
theorem below_putLoop {n l : Nat} {w W : World} (h : Below n w W) (hn : n ≤ l) (o : Obj) : Below n w (W.putObj l o) :=
  ⟨h.os, h.tape, h.output, by simpa [World.putObj] using h.size, fun k hk => (World.putObj_heap_other (by omega)).trans (h.block k hk)⟩
theorem KeepT.putLoop {n0 l : Nat} {W : World} {r : Loop} (hn : n0 ≤ l) (hl : W.heap[l]? = some (.loop r)) (o : Obj) : KeepT n0 W (W.putObj l o) :=
  ⟨below_putLoop (Below.refl _ _) hn o, by simp [World.putObj], fun k cs t fr hk _ => World.putObj_heap_other (fun e => by subst e; rw [hk] at hl; cases hl)⟩
theorem ap_iter {n0 : Nat} {w w1 : World} (h0 : n0 ≤ w.heap.size) (h1 : w.heap.size ≤ w1.heap.size) : IterI (ApI n0 w) (WayP n0) (KeepT n0) n0 w w1 where
  keep := by
    rintro L W W' ⟨hb, Z, A, c, hx, hm, hw⟩ hk
    exact ⟨since_trans hb hk, Z, A, c, (hk.block _ (lt_heap hx)).trans hx, hm, hw.row.call hk, hw.za, fun z hz => (hw.each z hz).call hk⟩
  rec_ := by
    rintro L W l r o ⟨hb, Z, A, c, hx, hm, hw⟩ hle hl
    refine ⟨below_putLoop hb (by omega) o, Z, A, c, (World.putObj_heap_other (fun e => ?_)).trans hx, hm, hw.row.putLoop hl o, hw.za, fun z hz => ⟨(hw.each z hz).1, (hw.each z hz).2.1, (hw.each z hz).2.2.1, (hw.each z hz).2.2.2.putLoop hl o⟩⟩
    subst e; rw [hx] at hl; cases hl
  base := fun _ _ h => h.1.mono h0
  pre := fun q g W l r o h _ hl => ⟨h.1, h.2.1, h.2.2.1, h.2.2.2.putLoop hl o⟩
  trans := fun _ _ _ h k => h.trans k
  kp := fun W l r o hle hl => KeepT.putLoop (by omega) hl o
/-- One more way. -/
theorem ap_step {n0 : Nat} {w W w5 : World} {L : List (List Nat)} {q : List Nat} {z : WayZ} {Z : List WayZ} {A A2 : Option Addr} {c c2 n : Nat} (h0 : n0 ≤ w.heap.size) (hb : Below w.heap.size w W) (hx : W.heap[w.heap.size]? = some (.cells #[.slice A Z.length c] 44 (0, 0))) (hm : Z.map (·.1) = L) (hw : WaysW n0 (w.heap.size + 1) W Z A c)
    (hq : WayP n0 q z W) (o : Obj) (hn : n = Z.length + 1) (hown : Own w5 (w.heap.size + 1) 22 1 A2 n c2 (Z.map wayV ++ [wayV z])) (hg : (W.alloc o).grownBy w5 (blk A)) :
    KeepsOthers W (w5.setCell ⟨w.heap.size, 0, none⟩ (.slice A2 n c2)) ∧ KeepT n0 W (w5.setCell ⟨w.heap.size, 0, none⟩ (.slice A2 n c2)) ∧ ApI n0 w (L ++ [q]) (w5.setCell ⟨w.heap.size, 0, none⟩ (.slice A2 n c2)) := by
  subst hn
  have hxa : (W.alloc o).heap[w.heap.size]? = some (.cells #[.slice A Z.length c] 44 (0, 0)) := (Below.heap_alloc _ _ _ (lt_heap hx)).trans hx
  have hA : ∀ g, blk A = some g → ∃ cur, (W.alloc o).heap[g]? = some (.cells cur 22 (0, 0)) ∧ w.heap.size + 1 ≤ g ∧ g < W.heap.size := by
    intro g hgA
    by_cases hc : c = 0
    · rw [hw.za hc] at hgA; cases hgA
    · obtain ⟨g', off, cur, e, hh, _⟩ := hw.row.2.2.2.2.2 (by omega)
      subst e
      simp [blk] at hgA; subst hgA
      exact ⟨cur, (Below.heap_alloc _ _ _ (lt_heap hh)).trans hh, hw.row.from_ _ rfl, lt_heap hh⟩
  have hx5 : w5.heap[w.heap.size]? = some (.cells #[.slice A Z.length c] 44 (0, 0)) := (hg.block _ (lt_heap hxa) (fun e => by
    obtain ⟨cur, hh, hle, _⟩ := hA _ e.symm
    omega)).trans hxa
  have hsz : W.heap.size ≤ w5.heap.size := Nat.le_trans (by simp) hg.size
  have hK : KeepT n0 W (w5.setCell ⟨w.heap.size, 0, none⟩ (.slice A2 (Z.length + 1) c2)) := by
    refine ⟨?_, by simpa [World.setCell] using hsz, ?_⟩
    · exact (((Below.refl n0 W).alloc (Nat.le_trans h0 (by have := hb.size; omega)) o).grown hg (by simp; have := hb.size; omega) (fun g e => by obtain ⟨_, _, h1, _⟩ := hA g e; omega)).setCell h0 _
    · intro k cs t fr hk ht
      have hka : (W.alloc o).heap[k]? = some (.cells cs t fr) := (Below.heap_alloc _ _ _ (lt_heap hk)).trans hk
      have hne : k ≠ w.heap.size := by
        rintro rfl
        rw [hx] at hk
        injection hk with hk
        injection hk with _ h2
        rcases ht with ht | ht <;> rw [ht] at h2 <;> exact absurd h2 (by decide)
      rw [Below.heap_setCell _ _ _ _ hne, hg.block k (lt_heap hka) (fun e => ?_), hka, hk]
      obtain ⟨cur, hh, _, _⟩ := hA k e.symm
      rw [hka] at hh
      injection hh with hh
      injection hh with _ h2
      rcases ht with ht | ht <;> rw [ht] at h2 <;> exact absurd h2 (by decide)
  refine ⟨((KeepsOthers.alloc W o).trans (KeepsOthers.of_grownBy hg (fun j oj e hj => ?_))).trans (KeepsOthers.setCell _ _ _), hK, ?_⟩
  · obtain ⟨cur, hh, _, _⟩ := hA j e
    rw [hj] at hh
    injection hh with hh
    rw [hh]; rfl
  refine ⟨(((hb.alloc hb.size o).grown hg (by simp; have := hb.size; omega) (fun g e => by obtain ⟨_, _, h1, _⟩ := hA g e; omega)).setCell (Nat.le_refl _) _), Z ++ [z], A2, c2, ?_, ?_, ?_⟩
  · rw [heap_setCell_same _ _ _ _ _ _ hx5]; simp
  · rw [List.map_append, hm, List.map_cons, List.map_nil, hq.1]
  · refine ⟨?_, fun e => by have := hown.2.1; omega, ?_⟩
    · rw [List.map_append, List.length_append]
      exact hown.setCell_far (p := ⟨w.heap.size, 0, none⟩) (fun g hg => by have := hown.from_ g hg; simp; omega) _
    · intro y hy
      rcases List.mem_append.1 hy with hy | hy
      · exact (hw.each y hy).keepT hK
      · simp at hy; subst hy
        have := hq.keepT hK
        rw [hq.1]; exact this
theorem ap_pend {n0 : Nat} {w : World} {L : List (List Nat)} {W : World} (h : ApI n0 w L W) : ∃ (Z : List WayZ) (A : Option Addr) (c : Nat), W.cell? ⟨w.heap.size, 0, none⟩ = some (.slice A Z.length c) ∧ W.frozen? ⟨w.heap.size, 0, none⟩ = false ∧ W.heap[w.heap.size]? = some (.cells #[.slice A Z.length c] 44 (0, 0)) ∧ Z.map (·.1) = L ∧ WaysW n0 (w.heap.size + 1) W Z A c := by
  obtain ⟨hb, Z, A, c, hx, hm, hw⟩ := h
  exact ⟨Z, A, c, cell_of_row W _ 0 _ _ _ hx, frozen_of_row W _ 0 _ _ hx, hx, hm, hw⟩
/-- A list of ways is handed back. -/
def WaysPost (n0 : Nat) (L : List (List Nat)) (w : World) (e : Ending) (w' : World) : Prop := ∃ (Z : List WayZ) (A : Option Addr) (c : Nat), e = .returned (.slice A Z.length c) ∧ Z.map (·.1) = L ∧ WaysW n0 w.heap.size w' Z A c ∧ Below w.heap.size w w'
attribute [local go_sem] Oper.semAt_some
attribute [local go_sem ↓] Go.wp_at_zero Go.wp_at_succ
set_option maxRecDepth 100000 in
set_option maxHeartbeats 4000000 in
theorem appendSeq_any {n0 N : Nat} (hN : N ≤ 1000000000) (w : World) (h0 : n0 ≤ w.heap.size) {gf : FuncId} {lb : Array Value} {xs : List (List Nat)} (eg : ∀ (W : World) (args : Array Value), Sem.run Tryz.prog (callFunc gf args) W = Result.ok (Next.enter gf args) W)
    (hit : IterK gf lb (fun z : WayZ => #[wayV z]) (WayP n0) (KeepT n0) xs N n0 w) :
    Calls Tryz.prog 91 #[.slice none 0 0, .func (.func gf) #[] lb] w (WaysPost n0 xs w) := by
  obtain ⟨i0, hi0, hz0, hs0, hb0⟩ := info_parts Tryz.info_row
  have HIT := Lib.hid hit
  clear hit
  refine (callsIn_wide (n := 5)).1 ?_
  refine callsIn_of_wp_marks Tryz.func91 rfl trivial ?_ rfl
  simp only [Tryz.ntmps91, List.size_toArray, List.length_cons, List.length_nil, Nat.reduceAdd, Nat.reduceSub, Array.replicate_succ, Array.replicate_zero, List.push_toArray, List.append_toArray, List.nil_append, List.cons_append]
  gi_wp2
  refine wp_iter (enc := fun z : WayZ => #[wayV z]) (Pre := WayP n0) (Kp := KeepT n0) (w0 := w) rfl eg HIT.out ((Below.refl _ _).alloc (Nat.le_refl _) _) (fun _ => rfl) (ApI n0 w) (ap_iter h0 (by simp)) ?start
    (fun z => { tmps := #[.slice none 0 0, .func (.func gf) #[] lb, .pointer (some ⟨w.heap.size, 0, none⟩), undef, .slice none 0 0, wayV z, .func (.func gf) #[] lb, wayV z, undef, undef, undef, undef, undef], defers := [] }) ?assign ?body ?done
  case start => exact ⟨(Below.refl _ _).alloc (Nat.le_refl _) _, [], none, 0, heap_alloc_new _ _, rfl, Own.nil _ _ _ _, fun _ => rfl, by intro z hz; cases hz⟩
  case assign =>
    intro l z W K hK
    gi_wp2
    exact hK
  case body =>
    intro l L q z W hI hq hLN
    obtain ⟨Z, A, c, hc, hf, hx, hm, hw⟩ := ap_pend hI
    have hbel := hI.1
    have hZN : Z.length < N := by have := congrArg List.length hm; rw [List.length_map] at this; omega
    have HQ := Lib.hid hq
    have HW := Lib.hid hw
    have HST := Lib.hid (fun (w5 : World) (A2 : Option Addr) (c2 n : Nat) (o : Obj) => ap_step (w5 := w5) (A2 := A2) (c2 := c2) (n := n) h0 hbel hx hm hw hq o)
    have HF2 : Hid (∀ (w5 : World) (o : Obj), (W.alloc o).grownBy w5 (blk A) → w5.frozen? ⟨w.heap.size, 0, none⟩ = false ∧ w5.cell? ⟨w.heap.size, 0, none⟩ = some (.slice A Z.length c)) := Lib.hid (fun w5 o hg => by
      have hxa : (W.alloc o).heap[w.heap.size]? = some (.cells #[.slice A Z.length c] 44 (0, 0)) := (Below.heap_alloc _ _ _ (lt_heap hx)).trans hx
      have h5 := (hg.block _ (lt_heap hxa) (fun e => by have := hw.row.from_ _ e.symm; omega)).trans hxa
      exact ⟨frozen_of_row w5 _ 0 _ _ h5, cell_of_row w5 _ 0 _ _ _ h5⟩)
    have HWs := Lib.hid (lt_heap hx)
    clear hI hq hm hx hw hLN hbel
    unfold wayV
    gi_wp2_with (gi_at_builtin; refine wpListIn_app _ rfl _ _ 44 rfl (w.heap.size + 1) 22 i0 (.slice none 0 0) 1 24 Tryz.underlying44 hi0 hz0 hs0 hb0 rfl (by decide) A Z.length c (Z.map wayV) rfl (HW.out.row.alloc _) _ 1 _ [wayV z] rfl (Rd.new rfl rfl) (by intro u hu; simp [wayV] at hu; subst hu; rfl) (by unfold maxLen; omega) (by omega) (by have := HWs.out; simp; omega) ?_; intro A2 c2 w5 hown hgr _ _; obtain ⟨hf5, hc5⟩ := HF2.out w5 _ hgr)
    exact ⟨rfl, HST.out w5 A2 c2 _ _ rfl hown hgr⟩
  case done =>
    intro W hI hd
    obtain ⟨Z, A, c, hc, hf, hx, hm, hw⟩ := ap_pend hI
    have HD := Lib.hid hd
    have HF : Hid (WaysPost n0 xs w (.returned (.slice A Z.length c)) (W.putObj (w.alloc (.cells #[.slice none 0 0] 44)).heap.size (.deferred none))) := Lib.hid
      ⟨Z, A, c, rfl, hm, ⟨(hw.row.putNo hd rfl _).more (by omega), hw.za, fun z hz => ⟨(hw.each z hz).1, (hw.each z hz).2.1, (hw.each z hz).2.2.1, (hw.each z hz).2.2.2.putNo hd rfl _⟩⟩, below_putLoop hI.1 (by simp) _⟩
    clear hI hd hx hm hw hf
    dsimp only
    gi_wp2
    refine ⟨by simp, .inl ⟨_, _, rfl, run_takeDeferred HD.out, ?_⟩⟩
    exact ⟨.slice A Z.length c, by simp [results, Tryz.results91, go_sem], HF.out⟩
theorem collect_any {n0 N : Nat} (hN : N ≤ 1000000000) (w : World) (h0 : n0 ≤ w.heap.size) {gf : FuncId} {lb : Array Value} {xs : List (List Nat)} (eg : ∀ (W : World) (args : Array Value), Sem.run Tryz.prog (callFunc gf args) W = Result.ok (Next.enter gf args) W)
    (hit : IterK gf lb (fun z : WayZ => #[wayV z]) (WayP n0) (KeepT n0) xs N n0 w) :
    Calls Tryz.prog 56 #[.func (.func gf) #[] lb] w (WaysPost n0 xs w) := by
  have HIT := Lib.hid hit
  clear hit
  go_enter Tryz.func56, Tryz.ntmps56
  go_wp2_with (go_at_call 91; refine (appendSeq_any hN w h0 eg HIT.out).mono ?_; rintro e w2 ⟨Z, A, c, rfl, h1, h2, h3⟩)
  go_ret
  exact ⟨Z, A, c, rfl, h1, h2, h3⟩
/-- How many ways there are at most. -/
theorem onL_len {nb : Nat → List Nat} {b m : Nat} (hm : 1 ≤ m) (hnb : ∀ u, (nb u).length ≤ m) : ∀ (k : Nat) (pre : List Nat) (u : Nat), (Gr.onL nb b k pre u).length ≤ m ^ k
  | 0, pre, u => by simp [Gr.onL]
  | k + 1, pre, u => by
    simp only [Gr.onL]
    split
    · show 1 ≤ m ^ (k + 1); exact Nat.pow_pos (by omega)
    · have key : ∀ l : List Nat, (l.flatMap fun v => if v ∈ pre ++ [u] then [] else Gr.onL nb b k (pre ++ [u]) v).length ≤ l.length * m ^ k := by
        intro l
        induction l with
        | nil => simp
        | cons v l ih =>
          rw [List.flatMap_cons, List.length_append, List.length_cons, Nat.add_mul]
          have : (if v ∈ pre ++ [u] then [] else Gr.onL nb b k (pre ++ [u]) v).length ≤ m ^ k := by
            split
            · simp
            · exact onL_len hm hnb k _ v
          omega
      have h1 := key (nb u)
      have h2 : (nb u).length * m ^ k ≤ m * m ^ k := Nat.mul_le_mul_right _ (hnb u)
      rw [Nat.pow_succ, Nat.mul_comm (m ^ k)]
      omega
theorem waysN_len (p : Net) (f : Int) (a b : Nat) (h1 : 1 ≤ p.nodes.length) (h7 : p.nodes.length ≤ 7) : (waysN p f a b).length ≤ 10000000 := by
  have h2 : (waysN p f a b).length ≤ 7 ^ (p.nodes.length + 1) := onL_len (by omega) (fun u => by unfold nbL; exact Nat.le_trans (List.length_filter_le _ _) (by simpa using h7)) _ _ _
  have h3 : 7 ^ (p.nodes.length + 1) ≤ 7 ^ 8 := Nat.pow_le_pow_right (by omega) (by omega)
  have h4 : 7 ^ 8 ≤ 10000000 := by decide
  omega
theorem all_iter {p : Net} {h : Hd} {w0 : World} {n0 : Nat} (hg : Good p) (hp : NetR w0 n0 p h) (h0 : n0 ≤ w0.heap.size) (f : Int) (a b : Nat) (ha : a < p.nodes.length) {bw bf : Nat} (hw : w0.heap[bw]? = some (.cells (wkCells p h f b) 93 (0, 0))) (hf : w0.heap[bf]? = some (.cells #[.int .i64 (a : Int)] 3 (0, 0))) (N : Nat) (hN : (waysN p f a b).length ≤ N) :
    IterK 92 #[.pointer (some ⟨bw, 0, none⟩), .pointer (some ⟨bf, 0, none⟩)] (fun z : WayZ => #[wayV z]) (fun q z W => q ∈ waysN p f a b ∧ WayP n0 q z W) (KeepT n0) (waysN p f a b) N n0 w0 := by
  intro l J W hW hJ hJb hY hj0
  refine callsIn_wide.2 (all1_any (N := N) (Qk := fun q => q ∈ waysN p f a b) ⟨hg, hp, h0, hJ, fun L W1 h => hJb L W1 h, ?_⟩ f a b ha hN (fun _ h => h) bw bf W ((hW.block _ (lt_heap hw)).trans hw) ((hW.block _ (lt_heap hf)).trans hf) hj0)
  intro L q A c W1 hj hLN hQ h12 hne ho
  exact hY L q (q, (A, c)) W1 hj ⟨hQ, rfl, h12, hne, ho⟩ hLN
end
end Go.Proofs.YtlnnmjomdblciaaGreat

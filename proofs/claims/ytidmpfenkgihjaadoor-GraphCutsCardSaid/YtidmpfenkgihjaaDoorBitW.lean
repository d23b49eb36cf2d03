/- The walks of bits.List, a range over a function, and bits.Of, at sets of at most nine links. -/
import Derived.Test.YtidmpfenkgihjaaDoorBitP
import Derived.Test.YtidmpfenkgihjaaDoorIter
import Derived.Test.YtidmpfenkgihjaaDoorRegs
import Derived.Lib.TrailingZeros
import Derived.Lib.LaidTab
import Derived.Shelf.Abstract
import Derived.Shelf.RegionOpen
import Derived.OwnWalkIn
import Derived.TacticsInMore
import Derived.LoopNIn
import Derived.LoopIn
namespace Go.Proofs.YtidmpfenkgihjaaDoor
set_option linter.unusedSimpArgs false
set_option linter.unusedVariables false
open Go.RowKit

section
/-- The library's table is as it was laid. -/
def Tab (w : World) : Prop := Lib.TabIs Tryd.prog w "math/bits.deBruijn32tab" .u8 (Lib.deBruijn32tab.map fun (n : Nat) => (n : Int))
theorem Tryd.tab_named : Tryd.prog.globalNamed "math/bits.deBruijn32tab" = some 0 := by kernel_rfl
theorem Tab.at_ {w : World} (h : Tab w) {j : Nat} (hj : j < 32) : w.cell? ⟨0, j, none⟩ = some (.int .u8 (Lib.deBruijn32tab.getD j 0 : Nat)) := by
  have h1 := Lib.TabIs.cell h Tryd.tab_named j (by simp [Lib.deBruijn32tab]; omega)
  rw [h1]
  have hl : j < Lib.deBruijn32tab.length := by simp [Lib.deBruijn32tab]; omega
  simp [List.getD, hl]
theorem Tab.lt {w : World} (h : Tab w) : 0 < w.heap.size := by
  unfold Tab Lib.TabIs World.var? at h
  simp only [Tryd.tab_named, Option.bind_some] at h
  apply Nat.lt_of_not_le
  intro hge
  rw [Array.getElem?_eq_none hge] at h
  simp at h
theorem Tab.block {w w' : World} (h : Tab w) (hb : w'.heap[0]? = w.heap[0]?) : Tab w' := by
  unfold Tab Lib.TabIs World.var? at h ⊢
  simp only [Tryd.tab_named, Option.bind_some] at h ⊢
  rw [hb]; exact h
theorem Tab.below {w w' : World} {B : Nat} (h : Tab w) (hb : Below B w w') (hB : w.heap.size ≤ B) : Tab w' := h.block (hb.block _ (Nat.lt_of_lt_of_le h.lt hB))
theorem Tab.call {w w' : World} (h : Tab w) (hb : Below w.heap.size w w') : Tab w' := h.below hb (Nat.le_refl _)
theorem Tryd.tab_type : (Tryd.prog.globals[0]?).map (·.type) = some 119 := by kernel_rfl
theorem Tryd.tab_cells : Tryd.prog.cellsOf 119 = 32 := by kernel_rfl
theorem Tryd.u8_cells : Tryd.prog.cellsOf 5 = 1 := by kernel_rfl
theorem tab_of {W : World} (h : laidMet Tryd.prog [("math/bits.deBruijn32tab", Rows.laid_math_bits_deBruijn32tab)] W) : Tab W :=
  Lib.tabIs_of_head (rest := []) Tryd.tab_named Tryd.tab_type Tryd.underlying119 Tryd.underlying5 Tryd.u8_cells Tryd.tab_cells h
theorem tz_any (x : Nat) (hx : x < 512) (h0 : x ≠ 0) (w : World) (ht : Tab w) : Calls Tryd.prog 62 #[.int .u16 x] w fun e w' => e = .returned (.int .i64 (lowN x : Nat)) ∧ w' = w := by
  obtain ⟨-, -, -, -, hlow⟩ := bit_facts x hx h0
  obtain ⟨hi, htab, hix⟩ := ix_facts x hx h0
  have hcell := ht.at_ hi
  rw [htab] at hcell
  have hx0 : ((x : Int) == 0) = false := by rw [beq_eq_false_iff_ne]; omega
  have hwl : IntKind.u32.wrap (lowBit x : Int) = (lowBit x : Int) := by
    have : lowBit x < 512 := by
      have := (bit_facts x hx h0).2.2.1
      exact Nat.pow_lt_pow_right (n := 9) (by omega) this
    simp [IntKind.wrap, IntKind.signed, IntKind.bits]; omega
  have hi0 : (0 : Int) ≤ (ixN x : Int) := by omega
  have hi1 : (ixN x : Int) < 32 := by omega
  have hlw : lowN x < 9 := (bit_facts x hx h0).2.2.1
  unfold ixN at *
  clear ht htab
  go_enter Tryd.func62, Tryd.ntmps62
  go_wp2
  go_ret
  exact ⟨rfl, rfl⟩
/-- What is captured. -/
theorem ball_any (x : Int) (w : World) : Calls Tryd.prog 36 #[.int .i64 x] w fun e w' => e = .returned (.func (.func 61) #[] #[.pointer (some ⟨w.heap.size, 0, none⟩)]) ∧ w' = w.alloc (.cells #[.int .i64 x] 3) := by
  go_enter Tryd.func36, Tryd.ntmps36
  go_wp2
  go_ret
  exact ⟨by rfl, by rfl⟩
attribute [local go_sem] Oper.semAt_some
attribute [local go_sem ↓] Go.wp_at_zero Go.wp_at_succ
set_option maxRecDepth 100000 in
set_option maxHeartbeats 4000000 in
theorem ball1_any {J : List Nat → World → Prop} {l : Nat} (x : Nat) (hx : x < 512) (bf : Nat) (W : World) (hf : W.heap[bf]? = some (.cells #[.int .i64 (x : Int)] 3 (0, 0))) (hJt : ∀ L W, J L W → Tab W)
    (hY : ∀ (L : List Nat) (q : Nat) (W1 : World), J L W1 → L.length < 9 → YieldAt Fence.wide 2 Tryd.prog l #[.int .i64 (q : Int)] W1 fun e W2 => e = .returned (.bool true) ∧ J (L ++ [q]) W2) (hj : J [] W) :
    Calls Tryd.prog 61 #[.func (.yield l) #[] #[], .pointer (some ⟨bf, 0, none⟩)] W fun e W' => (∃ v, e = .returned v) ∧ J (posL x) W' := by
  have gf := cell_of_row W _ 0 _ _ _ hf
  have hw16 : IntKind.u16.wrap (x : Int) = (x : Int) := by simp [IntKind.wrap, IntKind.signed, IntKind.bits]; omega
  have HY := Lib.hid hY
  have HT := Lib.hid hJt
  have HJ := Lib.hid hj
  have HL := Lib.hid (posL_len x hx)
  clear hY hJt hj hf
  go_enter Tryd.func61, Tryd.ntmps61
  go_upto_region 0 with fail
  go_wp2_with fail
  go_loopw [3] (fun sx wx => ∃ (y : Nat) (L : List Nat), y < 512 ∧ sx = .int .u16 y ∧ L ++ posL y = posL x ∧ J L wx) (fun sx _ => (intOf sx).toNat)
  case atStart => exact ⟨x, [], hx, rfl, rfl, HJ.out⟩
  case round =>
    clear gf HJ
    obtain ⟨y, L, hy, rfl, hL, hJ⟩ := hrel
    have LX := Lib.hid hL
    have JX := Lib.hid hJ
    clear hL hJ
    by_cases h0 : y = 0
    · subst h0
      have hz : (((0 : Nat) : Int) != 0) = false := by simp
      have hz2 : ((0 : Int) != 0) = false := by simp
      go_wp2
      go_end0
      have h := LX.out
      rw [posL_zero, List.append_nil] at h
      exact ⟨⟨_, rfl⟩, by rw [← h]; exact JX.out⟩
    · obtain ⟨h1, h2, h3, h4, -⟩ := bit_facts y hy h0
      have hz : ((y : Int) != 0) = true := by simp; omega
      have HLL : Hid (L.length < 9) := Lib.hid (by have h := congrArg List.length LX.out; rw [h1] at h; have := HL.out; simp at h; omega)
      have HTZ := Lib.hid (fun (wy : World) (ht : Tab wy) => tz_any y hy h0 wy ht)
      have HN : Hid ((L ++ [lowN y]) ++ posL (nxtN y) = posL x) := Lib.hid (by rw [← LX.out, h1]; simp)
      have HM := Lib.hid h2
      clear h1 h0
      go_upto_region 3 with fail
      clear hz
      refine (wpIn_wide (n := 3)).1 ?_
      gi_wp2_with (refine ⟨trivial, ?_⟩; gi_at_call 62; refine (callsIn_wide.2 (HTZ.out _ (HT.out _ _ JX.out))).mono ?_; rintro e W2 ⟨rfl, rfl⟩)
      obtain ⟨fn, tmps, assign, body, hy2, hR⟩ := HY.out L (lowN y) _ JX.out HLL.out
      have HR := Lib.hid hR
      clear hR
      rw [hy2, Oper.uponIn_round]
      refine ⟨fun _ => by decide, ?_⟩
      refine HR.out.mono ?_
      rintro e W3 ⟨rfl, hJ3⟩
      have J3 := Lib.hid hJ3
      clear hJ3
      gi_wp2
      go_wp2
      have hw : IntKind.u16.wrap ((y : Int) - 1) = (y : Int) - 1 := by
        have := HM.out
        simp [IntKind.wrap, IntKind.signed, IntKind.bits]; omega
      rw [hw] at h4
      rw [h4]
      exact ⟨⟨nxtN y, L ++ [lowN y], by omega, rfl, HN.out, J3.out⟩, by simp [intOf]; exact h2⟩
end

section
/-- What List keeps: its box, and the list so far. -/
def LsI (n0 : Nat) (w0 : World) (L : List Nat) (W : World) : Prop :=
  Below n0 w0 W ∧ ∃ (A : Option Addr) (c : Nat), W.heap[n0]? = some (.cells #[.slice A L.length c] 22 (0, 0)) ∧ Own W (n0 + 1) 3 1 A L.length c (nats L) ∧ (c = 0 → A = none)
theorem ls_iter {n0 : Nat} {w0 : World} (h0 : n0 < w0.heap.size) : IterI (LsI n0 w0) (fun (q g : Nat) (_ : World) => q = g) (fun _ _ => True) n0 w0 w0 where
  keep := by
    rintro L W W' ⟨hb, A, c, hx, ho, hz⟩ hk
    exact ⟨hb.trans (hk.mono (Nat.le_of_lt (lt_heap hx))), A, c, (hk.block _ (lt_heap hx)).trans hx, ho.call hk, hz⟩
  rec_ := by
    rintro L W l r o ⟨hb, A, c, hx, ho, hz⟩ hle hl
    refine ⟨below_putLoop hb (by omega) o, A, c, (World.putObj_heap_other (fun e => ?_)).trans hx, ho.putLoop hl o, hz⟩
    subst e; rw [hx] at hl; cases hl
  base := fun _ _ h => h.1
  pre := fun q g W l r o h _ _ => h
  trans := fun _ _ _ _ _ => trivial
  kp := fun _ _ _ _ _ _ => trivial
/-- One more. -/
theorem ls_step {n0 : Nat} {w0 W w5 : World} {L : List Nat} {q : Nat} {A A2 : Option Addr} {c c2 n : Nat} (hb : Below n0 w0 W) (hx : W.heap[n0]? = some (.cells #[.slice A L.length c] 22 (0, 0))) (ho : Own W (n0 + 1) 3 1 A L.length c (nats L)) (hz : c = 0 → A = none)
    (o : Obj) (hn : n = L.length + 1) (hown : Own w5 (n0 + 1) 3 1 A2 n c2 (nats L ++ [.int .i64 (q : Int)])) (hg : (W.alloc o).grownBy w5 (blk A)) :
    KeepsOthers W (w5.setCell ⟨n0, 0, none⟩ (.slice A2 n c2)) ∧ LsI n0 w0 (L ++ [q]) (w5.setCell ⟨n0, 0, none⟩ (.slice A2 n c2)) := by
  subst hn
  have hnW := lt_heap hx
  have hxa : (W.alloc o).heap[n0]? = some (.cells #[.slice A L.length c] 22 (0, 0)) := (Below.heap_alloc _ _ _ (lt_heap hx)).trans hx
  have hA : ∀ g, blk A = some g → ∃ cur, (W.alloc o).heap[g]? = some (.cells cur 3 (0, 0)) ∧ n0 + 1 ≤ g ∧ g < W.heap.size := by
    intro g hgA
    by_cases hc : c = 0
    · rw [hz hc] at hgA; cases hgA
    · obtain ⟨g', off, cur, e, hh, _⟩ := ho.2.2.2.2.2 (by omega)
      subst e
      simp [blk] at hgA; subst hgA
      exact ⟨cur, (Below.heap_alloc _ _ _ (lt_heap hh)).trans hh, ho.from_ _ rfl, lt_heap hh⟩
  have hx5 : w5.heap[n0]? = some (.cells #[.slice A L.length c] 22 (0, 0)) := (hg.block _ (lt_heap hxa) (fun e => by
    obtain ⟨cur, hh, hle, _⟩ := hA _ e.symm
    omega)).trans hxa
  refine ⟨((KeepsOthers.alloc W o).trans (KeepsOthers.of_grownBy hg (fun j oj e hj => ?_))).trans (KeepsOthers.setCell _ _ _), ?_⟩
  · obtain ⟨cur, hh, _, _⟩ := hA j e
    rw [hj] at hh
    injection hh with hh
    rw [hh]; rfl
  refine ⟨(((hb.alloc (by omega) o).grown hg (by simp; omega) (fun g e => by obtain ⟨_, _, h1, _⟩ := hA g e; omega)).setCell (Nat.le_refl _) _), A2, c2, ?_, ?_, fun e => by have := hown.2.1; omega⟩
  · rw [heap_setCell_same _ _ _ _ _ _ hx5]; simp
  · rw [nats_snoc, List.length_append]
    exact hown.setCell_far (p := ⟨n0, 0, none⟩) (fun g hg => by have := hown.from_ g hg; simp; omega) _
theorem ls_pend {n0 : Nat} {w0 W : World} {L : List Nat} (h : LsI n0 w0 L W) : ∃ (A : Option Addr) (c : Nat), W.cell? ⟨n0, 0, none⟩ = some (.slice A L.length c) ∧ W.frozen? ⟨n0, 0, none⟩ = false ∧ W.heap[n0]? = some (.cells #[.slice A L.length c] 22 (0, 0)) ∧ Own W (n0 + 1) 3 1 A L.length c (nats L) ∧ (c = 0 → A = none) := by
  obtain ⟨hb, A, c, hx, ho, hz⟩ := h
  exact ⟨A, c, cell_of_row W _ 0 _ _ _ hx, frozen_of_row W _ 0 _ _ hx, hx, ho, hz⟩
def ListPost (x : Nat) (w : World) (e : Ending) (w' : World) : Prop := ∃ A c, e = .returned (.slice A (posL x).length c) ∧ Own w' w.heap.size 3 1 A (posL x).length c (nats (posL x)) ∧ Below w.heap.size w w'
theorem bits_iter {w0 : World} {n0 : Nat} (x : Nat) (hx : x < 512) (ht : Tab w0) (hg : 0 < n0) (bf : Nat) (hbf : w0.heap[bf]? = some (.cells #[.int .i64 (x : Int)] 3 (0, 0))) :
    IterK 61 #[.pointer (some ⟨bf, 0, none⟩)] (fun i : Nat => #[.int .i64 (i : Int)]) (fun (q g : Nat) (_ : World) => q = g) (fun _ _ => True) (posL x) 9 n0 w0 := by
  intro l J W hW hJ hJb hY hj0
  refine callsIn_wide.2 (ball1_any (J := J) x hx bf W ((hW.block _ (lt_heap hbf)).trans hbf) (fun L W1 hj => ht.block ((hJb L W1 hj).block _ hg)) ?_ hj0)
  intro L q W1 hj hL9
  exact (hY L q q W1 hj rfl hL9).mono fun e W2 ⟨h1, h2, _⟩ => ⟨h1, h2⟩
attribute [local go_sem] Oper.semAt_some
attribute [local go_sem ↓] Go.wp_at_zero Go.wp_at_succ
set_option maxRecDepth 100000 in
set_option maxHeartbeats 4000000 in
theorem blist_any (x : Nat) (hx : x < 512) (w : World) (ht : Tab w) : Calls Tryd.prog 11 #[.int .i64 (x : Int)] w (ListPost x w) := by
  obtain ⟨i0, hi0, hz0, hs0, hb0⟩ := info_parts Tryd.info_int
  have HT := Lib.hid ht
  clear ht
  refine (callsIn_wide (n := 5)).1 ?_
  refine callsIn_of_wp_marks Tryd.func11 rfl trivial ?_ rfl
  simp only [Tryd.ntmps11, List.size_toArray, List.length_cons, List.length_nil, Nat.reduceAdd, Nat.reduceSub, Array.replicate_succ, Array.replicate_zero, List.push_toArray, List.append_toArray, List.nil_append, List.cons_append]
  gi_wp2_with (refine ⟨trivial, ?_⟩; gi_at_call 36; refine (callsIn_wide.2 (ball_any _ _)).mono ?_; rintro e w2 ⟨rfl, rfl⟩)
  have hsz : ((w.alloc (.cells #[.slice none 0 0] 22)).alloc (.cells #[.int .i64 (x : Int)] 3)).heap.size = w.heap.size + 2 := by simp
  have hlt : w.heap.size < ((w.alloc (.cells #[.slice none 0 0] 22)).alloc (.cells #[.int .i64 (x : Int)] 3)).heap.size := by omega
  have hbw : Below w.heap.size w ((w.alloc (.cells #[.slice none 0 0] 22)).alloc (.cells #[.int .i64 (x : Int)] 3)) := ((Below.refl _ _).alloc (Nat.le_refl _) _).alloc (by simp) _
  have hT2 : Tab ((w.alloc (.cells #[.slice none 0 0] 22)).alloc (.cells #[.int .i64 (x : Int)] 3)) := HT.out.call hbw
  have hbx : ((w.alloc (.cells #[.slice none 0 0] 22)).alloc (.cells #[.int .i64 (x : Int)] 3)).heap[w.heap.size]? = some (.cells #[.slice none 0 0] 22 (0, 0)) := (Below.heap_alloc _ _ _ (by simp)).trans (heap_alloc_new _ _)
  have hbf : ((w.alloc (.cells #[.slice none 0 0] 22)).alloc (.cells #[.int .i64 (x : Int)] 3)).heap[w.heap.size + 1]? = some (.cells #[.int .i64 (x : Int)] 3 (0, 0)) := by
    have := heap_alloc_new (w.alloc (.cells #[.slice none 0 0] 22)) (.cells #[.int .i64 (x : Int)] 3)
    simpa using this
  have HIT := Lib.hid (bits_iter (n0 := w.heap.size) x hx hT2 HT.out.lt (w.heap.size + 1) hbf)
  try simp only [World.size_alloc]
  generalize ((w.alloc (.cells #[.slice none 0 0] 22)).alloc (.cells #[.int .i64 (x : Int)] 3)) = w2 at *
  have HLT := Lib.hid hlt
  have HBW := Lib.hid hbw
  have HBX := Lib.hid hbx
  clear hsz hlt hbw hT2 hbx hbf
  refine wp_iter (enc := fun i : Nat => #[.int .i64 (i : Int)]) (Pre := fun (q g : Nat) (_ : World) => q = g) (Kp := fun _ _ => True) (w0 := w2) rfl ?eg HIT.out (Below.refl _ _) (fun _ => rfl) (LsI w.heap.size w2) (ls_iter HLT.out) ?start
    (fun z => { tmps := #[.int .i64 (x : Int), undef, .pointer (some ⟨w.heap.size, 0, none⟩), .int .i64 (z : Int), .int .i64 (x : Int), .func (.func 61) #[] #[.pointer (some ⟨w.heap.size + 1, 0, none⟩)], .int .i64 (z : Int), undef, undef, undef, undef], defers := [] }) ?assign ?body ?done
  case eg =>
    intro W args
    have e1 : ¬ (Tryd.f61.name = "runtime.NumGoroutine") := by decide +kernel
    have e2 : ¬ (Tryd.f61.body = none) := fun e => by cases e
    simp [callFunc, go_sem, e1, e2]
  case start => exact ⟨Below.refl _ _, none, 0, HBX.out, Own.nil _ _ _ _, fun _ => rfl⟩
  case assign =>
    intro l z W K hK
    gi_wp2
    exact hK
  case body =>
    rintro l L q z W hI rfl hLN
    obtain ⟨A, c, hc, hf, hx2, ho, hz⟩ := ls_pend hI
    have hbel := hI.1
    have HW := Lib.hid ho
    have HST := Lib.hid (fun (w5 : World) (A2 : Option Addr) (c2 n : Nat) (o : Obj) => ls_step (w5 := w5) (A2 := A2) (c2 := c2) (n := n) (q := q) hbel hx2 ho hz o)
    have HF2 : Hid (∀ (w5 : World) (o : Obj), (W.alloc o).grownBy w5 (blk A) → w5.frozen? ⟨w.heap.size, 0, none⟩ = false ∧ w5.cell? ⟨w.heap.size, 0, none⟩ = some (.slice A L.length c)) := Lib.hid (fun w5 o hg => by
      have hxa : (W.alloc o).heap[w.heap.size]? = some (.cells #[.slice A L.length c] 22 (0, 0)) := (Below.heap_alloc _ _ _ (lt_heap hx2)).trans hx2
      have h5 := (hg.block _ (lt_heap hxa) (fun e => by have := ho.from_ _ e.symm; omega)).trans hxa
      exact ⟨frozen_of_row w5 _ 0 _ _ h5, cell_of_row w5 _ 0 _ _ _ h5⟩)
    have HWs := Lib.hid (lt_heap hx2)
    clear hI hx2 ho hz hbel
    gi_wp2_with (gi_at_builtin; refine wpListIn_app _ rfl _ _ 22 rfl (w.heap.size + 1) 3 i0 (.int .i64 0) 1 8 Tryd.underlying22 hi0 hz0 hs0 hb0 rfl (by decide) A L.length c (nats L) rfl (HW.out.alloc _) _ 1 _ [.int .i64 (q : Int)] rfl (Rd.new rfl rfl) (by intro u hu; simp at hu; subst hu; rfl) (by unfold maxLen; omega) (by omega) (by have := HWs.out; simp; omega) ?_; intro A2 c2 w5 hown hgr _ _; obtain ⟨hf5, hc5⟩ := HF2.out w5 _ hgr)
    obtain ⟨q1, q2⟩ := HST.out w5 A2 c2 _ _ rfl hown hgr
    exact ⟨rfl, q1, trivial, q2⟩
  case done =>
    intro W hI hd
    obtain ⟨A, c, hc, hf, hx2, ho, hz⟩ := ls_pend hI
    have HD := Lib.hid hd
    have HF : Hid (ListPost x w (.returned (.slice A (posL x).length c)) (W.putObj w2.heap.size (.deferred none))) := Lib.hid
      ⟨A, c, rfl, (ho.putNo hd rfl _).more (by omega), below_putLoop (HBW.out.trans hI.1) (Nat.le_of_lt HLT.out) _⟩
    have hc2 : (W.putObj w2.heap.size (.deferred none)).cell? ⟨w.heap.size, 0, none⟩ = some (.slice A (posL x).length c) := cell_of_row _ _ 0 _ _ _ ((World.putObj_heap_other (by have := HLT.out; omega)).trans hx2)
    clear hI hd hx2 ho hz hf
    dsimp only
    gi_wp2
    refine ⟨by simp, .inl ⟨_, _, rfl, run_takeDeferred HD.out, ?_⟩⟩
    exact ⟨.slice A (posL x).length c, by simp [results, Tryd.results11, go_sem, hc2], HF.out⟩
theorem bof_any (l : List Nat) (hl : ∀ i ∈ l, i < 16) (hlen : l.length ≤ 100) (A : Option Addr) (c B : Nat) (w : World) (h : Rd w B 1 A l.length (nats l)) : Calls Tryd.prog 10 #[.slice A l.length c] w fun e w' => e = .returned (.int .i64 (setN l)) ∧ w = w' := by
  have H := Lib.hid h
  clear h
  go_enter Tryd.func10, Tryd.ntmps10
  go_wp2_with fail
  go_loopw [2, 7] (fun sf si wx => ∃ k : Nat, k ≤ l.length ∧ si = .int .i64 k ∧ sf = .int .i64 (setN (l.take k)) ∧ w = wx) (fun _ si _ => l.length - (intOf si).toNat)
  case atStart => exact ⟨0, Nat.zero_le _, rfl, rfl, rfl⟩
  case round =>
    obtain ⟨k, hk, rfl, rfl, rfl⟩ := hrel
    by_cases hlt : k < l.length
    · obtain ⟨x, hx⟩ : ∃ x, l[k]? = some x := ⟨_, List.getElem?_eq_getElem hlt⟩
      have hx16 := hl x (List.mem_of_getElem? hx)
      obtain ⟨b, o, rfl, hb, hc⟩ := H.out.one (i := k) (x := .int .i64 (x : Int)) (nats_at hx)
      have HT : Hid (bits BinOp.or IntKind.i64 (setN (l.take k)) (IntKind.i64.wrap (2 ^ x)) = setN (l.take (k + 1))) := Lib.hid (by rw [List.take_add_one, hx]; exact (setN_snoc _ _).symm)
      have hk0 : (0 : Int) ≤ (k : Int) := by omega
      have hdx : decide (0 ≤ (x : Int) ∧ (x : Int) < 16) = true := decide_eq_true (by omega)
      clear hx
      generalize hF : setN (l.take k) = F at *
      clear hF
      go_wp2_with (go_at_call 35; refine (isLink_any _ _).mono ?_; rintro e w1 ⟨rfl, rfl⟩; rw [hdx])
      go_roundw
      case rel => exact ⟨k + 1, by omega, by go_num, by rw [← HT.out, IntKind.wrap_i64, wrap64], trivial⟩
      case measure => simp [intOf]; omega
    · have hk' : k = l.length := by omega
      subst hk'
      rw [List.take_length]
      go_wp2
      go_ret
      exact ⟨rfl, rfl⟩
end
end Go.Proofs.YtidmpfenkgihjaaDoor

/- The walk of attr.Print: a route's text. -/
import Derived.Test.YtidmpfenkgihjaaDoorAttrX
import Derived.Deep.OwnRows
namespace Go.Proofs.YtidmpfenkgihjaaDoor
set_option linter.unusedSimpArgs false
set_option linter.unusedVariables false
open Go.RowKit Go.Sort

theorem below_grow {B : Nat} {w w' : World} (h : Below B w w') (hB : B ≤ w'.heap.size) (k : Nat) (os : Array Obj) : Below B w (grow (w'.drewN k) os) := by
  refine h.trans ⟨rfl, rfl, rfl, by simp [grow, World.drewN], fun b hb => ?_⟩
  rw [heap_grow_old _ _ (by show b < w'.heap.size; omega)]; rfl
/-- The library's table of powers of ten is as it was laid. -/
def Tab (w : World) : Prop := Lib.TabIs Tryd.prog w "internal/strconv.uint64pow10" .u64 Lib.pow10Tab
theorem Tryd.tab_named : (Tryd.prog.globalNamed "internal/strconv.uint64pow10").isSome = true := by kernel_rfl
theorem Tab.lt {w : World} (h : Tab w) : ∀ g, Tryd.prog.globalNamed "internal/strconv.uint64pow10" = some g → g < w.heap.size := by
  intro g hg
  unfold Tab Lib.TabIs World.var? at h
  simp only [hg, Option.bind_some] at h
  apply Nat.lt_of_not_le
  intro hge
  rw [Array.getElem?_eq_none hge] at h
  simp at h
theorem Tab.below {w w' : World} {B : Nat} (h : Tab w) (hb : Below B w w') (hB : w.heap.size ≤ B) : Tab w' := by
  obtain ⟨g, hg⟩ := Option.isSome_iff_exists.1 Tryd.tab_named
  exact var?_below hb hg (Nat.lt_of_lt_of_le (h.lt g hg) hB) h
theorem Tab.call {w w' : World} (h : Tab w) (hb : Below w.heap.size w w') : Tab w' := h.below hb (Nat.le_refl _)
def itoaS (n : Int) : ByteArray := ⟨(Lib.itoa n).toArray⟩
theorem itoa_any (n : Int) (h0 : -9223372036854775808 ≤ n) (h1 : n ≤ 9223372036854775807) (w : World) (ht : Tab w) : Calls Tryd.prog 39 #[.int .i64 n] w fun e w' => e = .returned (.string (itoaS n)) ∧ Below w.heap.size w w' :=
  (Tryd.strconv_Itoa n h0 h1 w ht).mono fun e w' ⟨h2, k, os, h3⟩ => ⟨h2, by rw [h3]; exact below_grow (Below.refl _ _) (Nat.le_refl _) _ _⟩

/-! ### Texts, plainly -/
theorem dec_len : ∀ (k u : Nat), 0 < k → u < 10 ^ k → (Lib.decDigits u).length ≤ k := by
  intro k
  induction k with
  | zero => intro u h; omega
  | succ k ih =>
    intro u _ hu
    rw [Lib.decDigits]
    by_cases h : u < 10
    · rw [dif_pos h]; simp
    · rw [dif_neg h, List.length_append]
      have hk : 0 < k := by
        cases k with
        | zero => simp at hu; omega
        | succ k => omega
      have := ih (u / 10) hk (by rw [Nat.pow_succ] at hu; omega)
      simp; omega
theorem itoa_len {n : Int} (h0 : 0 ≤ n) (h1 : n ≤ 65535) : (Lib.itoa n).length ≤ 5 := by
  unfold Lib.itoa
  rw [if_neg (by omega)]
  exact dec_len 5 _ (by omega) (by omega)
theorem lens_le {xs : List (List UInt8)} {m : Nat} (h : ∀ x ∈ xs, x.length ≤ m) : Lib.lens xs ≤ m * xs.length := by
  induction xs with
  | nil => simp [Lib.lens]
  | cons x xs ih =>
    have := ih (fun y hy => h y (by simp [hy]))
    have := h x (by simp)
    simp only [Lib.lens, List.map_cons, List.sum_cons, List.length_cons, Nat.mul_add] at *
    omega
theorem join_len {xs : List (List UInt8)} (h : ∀ x ∈ xs, x.length ≤ 5) : (Lib.join xs [32]).length ≤ 6 * xs.length := by
  cases xs with
  | nil => simp [Lib.join_nil]
  | cons x r =>
    rw [Lib.join_cons, List.length_append, Lib.joinTail_length]
    have h1 := h x (by simp)
    have h2 := lens_le (xs := r) (m := 5) (fun y hy => h y (by simp [hy]))
    simp only [List.length_cons, List.length_nil]
    omega
/-- A route's text. -/
def printB (r : Rt) : List UInt8 := if r.kind = 1 then Lib.itoa r.cost else if r.kind = 2 then 91 :: (Lib.join (r.path.map Lib.itoa) [32] ++ [93]) else [45]
/-- The words so far. -/
def wordsArr (l : List Int) (k : Nat) : Array Value := ((List.range l.length).map fun j => Value.string (if j < k then itoaS (l.getD j 0) else ⟨#[]⟩)).toArray
theorem wordsArr_at (l : List Int) (k : Nat) {j : Nat} (h : j < l.length) : (wordsArr l k)[j]? = some (.string (if j < k then itoaS (l.getD j 0) else ⟨#[]⟩)) := by simp [wordsArr, h]
theorem wordsArr_size (l : List Int) (k : Nat) : (wordsArr l k).size = l.length := by simp [wordsArr]
theorem wordsArr_zero (l : List Int) : madeCells #[Value.string ⟨#[]⟩] l.length = wordsArr l 0 := by
  apply Array.ext_getElem?
  intro i
  by_cases h : i < l.length
  · rw [wordsArr_at l 0 h]; simp [madeCells, h, Nat.mod_one]
  · rw [Array.getElem?_eq_none (by simp [madeCells]; omega), Array.getElem?_eq_none (by rw [wordsArr_size]; omega)]
theorem wordsArr_set (l : List Int) {k : Nat} (h : k < l.length) : (wordsArr l k).setIfInBounds k (.string (itoaS (l.getD k 0))) = wordsArr l (k + 1) := by
  apply Array.ext_getElem?
  intro i
  rw [Array.getElem?_setIfInBounds]
  by_cases hi : i < l.length
  · rw [wordsArr_at l _ hi, wordsArr_at l _ hi]
    by_cases e : k = i
    · subst e; simp [wordsArr_size, h]
    · have e' : (i < k + 1) ↔ i < k := by omega
      simp [e, e']
  · rw [Array.getElem?_eq_none (by rw [wordsArr_size]; omega), Array.getElem?_eq_none (by rw [wordsArr_size]; omega)]
    simp [wordsArr_size]; omega
structure PrW (w wr : World) (r : Rt) (A : Option Addr) (c : Nat) (k : Nat) : Prop where
  below : Below w.heap.size w wr
  size : w.heap.size + 2 ≤ wr.heap.size
  t0 : Tab w
  box : wr.heap[w.heap.size]? = some (.cells #[.int .i64 r.kind, .int .i64 r.cost, .slice A r.path.length c] 41 (0, 0))
  words : wr.heap[w.heap.size + 1]? = some (.cells (wordsArr r.path k) 9 (0, 0))
section
variable {w wr w' : World} {r : Rt} {A : Option Addr} {c k : Nat}
theorem PrW.begin (ht : Tab w) : PrW w ((w.alloc (.cells #[.int .i64 r.kind, .int .i64 r.cost, .slice A r.path.length c] 41)).alloc (.cells (madeCells #[Value.string ⟨#[]⟩] r.path.length) 9)) r A c 0 where
  below := ((Below.refl _ _).alloc (Nat.le_refl _) _).alloc (by simp) _
  size := by simp
  t0 := ht
  box := (Below.heap_alloc _ _ _ (by simp)).trans (heap_alloc_new _ _)
  words := by
    have := heap_alloc_new (w.alloc (.cells #[.int .i64 r.kind, .int .i64 r.cost, .slice A r.path.length c] 41)) (.cells (madeCells #[Value.string ⟨#[]⟩] r.path.length) 9)
    rw [← wordsArr_zero]
    simpa using this
theorem PrW.tab (a : PrW w wr r A c k) : Tab wr := a.t0.call a.below
theorem PrW.call (a : PrW w wr r A c k) (hb : Below wr.heap.size wr w') : PrW w w' r A c k :=
  ⟨a.below.trans (hb.mono (by have := a.size; omega)), Nat.le_trans a.size hb.size, a.t0, (hb.block _ (by have := a.size; omega)).trans a.box, (hb.block _ (by have := a.size; omega)).trans a.words⟩
theorem PrW.set (a : PrW w wr r A c k) (hk : k < r.path.length) : PrW w (wr.setCell ⟨w.heap.size + 1, k, none⟩ (.string (itoaS (r.path.getD k 0)))) r A c (k + 1) :=
  ⟨a.below.setCell (by simp) _, by simpa [World.setCell] using a.size, a.t0, (Below.heap_setCell _ _ _ _ (by simp)).trans a.box, by rw [heap_setCell_same _ _ _ _ _ _ a.words, wordsArr_set _ hk]⟩
theorem PrW.free (a : PrW w wr r A c k) (i : Nat) : wr.frozen? ⟨w.heap.size + 1, i, none⟩ = false := frozen_of_row wr _ i _ _ a.words
theorem PrW.word (a : PrW w wr r A c k) {i : Nat} (hi : i < r.path.length) : wr.cell? ⟨w.heap.size + 1, i, none⟩ = some (.string (if i < k then itoaS (r.path.getD i 0) else ⟨#[]⟩)) := by
  rw [cell_of_row wr _ i _ _ _ a.words, wordsArr_at _ _ hi]
theorem PrW.boxAt (a : PrW w wr r A c k) : wr.cell? ⟨w.heap.size, 0, none⟩ = some (.int .i64 r.kind) ∧ wr.cell? ⟨w.heap.size, 1, none⟩ = some (.int .i64 r.cost) ∧ wr.cell? ⟨w.heap.size, 2, none⟩ = some (.slice A r.path.length c) :=
  ⟨cell_of_row wr _ 0 _ _ _ a.box, cell_of_row wr _ 1 _ _ _ a.box, cell_of_row wr _ 2 _ _ _ a.box⟩
end
def PrintPost (r : Rt) (w : World) (e : Ending) (w' : World) : Prop := ∃ s : ByteArray, e = .returned (.string s) ∧ s.data.toList = printB r ∧ Below w.heap.size w w'
theorem Tryd.info_string : (Tryd.prog.info? 9).map (fun i => (i.zero, i.size, i.bytes)) = some (some (.string ⟨#[]⟩), 1, 16) := by kernel_rfl
set_option maxRecDepth 100000 in
set_option maxHeartbeats 1000000 in
theorem print_any (r : Rt) (A : Option Addr) (c : Nat) (w : World) (h : RtR w w.heap.size r A c) (ht : Tab w) (hc : -9223372036854775808 ≤ r.cost ∧ r.cost ≤ 9223372036854775807) (hn : ∀ x ∈ r.path, 0 ≤ x ∧ x ≤ 65535) (hl : r.path.length ≤ 1000000) :
    Calls Tryd.prog 18 #[rtV r A c] w (PrintPost r w) := by
  unfold rtV
  obtain ⟨hc0, hc1⟩ := hc
  have HT := Lib.hid (fun o => ht.call ((Below.refl w.heap.size w).alloc (Nat.le_refl _) o))
  by_cases h1 : r.kind = 1
  · have b1 : (r.kind == 1) = true := by simp [h1]
    have HN := Lib.hid (show printB r = Lib.itoa r.cost from by simp [printB, h1])
    clear h1 h hn ht
    go_enter Tryd.func18, Tryd.ntmps18
    go_wp2_with fail
    refine (itoa_any r.cost hc0 hc1 _ (HT.out _)).mono ?_
    rintro e w1 ⟨rfl, hb1⟩
    have HF : Hid (PrintPost r w (.returned (.string (itoaS r.cost))) w1) := Lib.hid ⟨_, rfl, by rw [HN.out]; simp [itoaS], ((Below.refl _ _).alloc (Nat.le_refl _) _).trans (hb1.mono (by simp))⟩
    clear hb1
    go_wp2
    go_ret
    exact HF.out
  have b1 : (r.kind == 1) = false := by simp [h1]
  by_cases h2 : r.kind = 2
  · have b2 : (r.kind == 2) = true := by simp [h2]
    have HN := Lib.hid (show printB r = 91 :: (Lib.join (r.path.map Lib.itoa) [32] ++ [93]) from by simp [printB, h2])
    have HB := Lib.hid (PrW.begin (r := r) (A := A) (c := c) ht)
    have HH := Lib.hid h.1
    have HX := Lib.hid hn
    obtain ⟨is, his, hsz0, hsz1, hsz2⟩ := info_parts Tryd.info_string
    clear h1 h2 h hn ht
    go_enter Tryd.func18, Tryd.ntmps18
    go_wp2_with (with_reducible refine wpList_make_row _ rfl _ _ 61 rfl 9 is (.string ⟨#[]⟩) Tryd.underlying61 his hsz0 hsz1 rfl .i64 .i64 r.path.length rfl rfl (by rw [hsz2]; omega) (by omega) ?_)
    go_loopw [22] (fun i wr => ∃ k : Nat, k ≤ r.path.length ∧ i = .int .i64 k ∧ PrW w wr r A c k) (fun i _ => r.path.length - (intOf i).toNat)
    case atStart => exact ⟨0, Nat.zero_le _, rfl, HB.out⟩
    case round =>
      clear HB
      obtain ⟨k, hk, rfl, hP⟩ := hrel
      by_cases hlt : k < r.path.length
      · obtain ⟨x, hx⟩ : ∃ x, r.path[k]? = some x := ⟨_, List.getElem?_eq_getElem hlt⟩
        obtain ⟨b, o, rfl, hb, hc⟩ := (HH.out.below hP.below (Nat.le_refl _)).one (i := k) (x := .int .i64 x) (by simp [ints, hx])
        have hxx := HX.out x (List.mem_of_getElem? hx)
        have HG := Lib.hid (show r.path.getD k 0 = x from by simp [List.getD, hx])
        have HP := Lib.hid hP
        have hsz := hP.size
        clear hx hP
        go_wp2_with fail
        refine (itoa_any x (by omega) (by omega) _ HP.out.tab).mono ?_
        rintro e w1 ⟨rfl, hb1⟩
        have hP1 := HP.out.call hb1
        have hwd := hP1.word hlt
        rw [if_neg (by omega)] at hwd
        have hwf := hP1.free k
        have HS := Lib.hid (HG.out ▸ hP1.set hlt)
        clear hb1 hP1 hc
        go_wp2
        go_roundw
        case rel => exact ⟨k + 1, by omega, by go_num, HS.out⟩
        case measure => simp [intOf]; omega
      · have hkl : k = r.path.length := by omega
        have hsz := hP.size
        have hlen : (r.path.map itoaS).length = r.path.length := by simp
        have hmm : (r.path.map itoaS).map (·.data.toList) = r.path.map Lib.itoa := by simp [itoaS]
        have hjl : (Lib.join (r.path.map Lib.itoa) [32]).length ≤ 6 * r.path.length := by
          have := join_len (xs := r.path.map Lib.itoa) (fun y hy => by
            obtain ⟨x, hx, rfl⟩ := List.mem_map.1 hy
            have := HX.out x hx
            exact itoa_len this.1 this.2)
          simpa using this
        have HJ : Calls Tryd.prog 40 #[.slice (some ⟨w.heap.size + 1, 0, none⟩) r.path.length r.path.length, .string ⟨#[32]⟩] wr fun e w' => ∃ sj : ByteArray, e = .returned (.string sj) ∧ sj.data.toList = Lib.join (r.path.map Lib.itoa) [32] ∧ sj.size ≤ 6000000 ∧ Below wr.heap.size wr w' := by
          have := Tryd.strings_Join (w.heap.size + 1) 0 r.path.length (r.path.map itoaS) ⟨#[32]⟩ wr (fun j x hx => by
            have hj : j < r.path.length := by have := (List.getElem?_eq_some_iff.1 hx).1; simpa using this
            have := hP.word hj
            rw [if_pos (by omega)] at this
            rw [Nat.zero_add, this]
            rw [List.getElem?_map, List.getElem?_eq_getElem hj] at hx
            simp at hx
            rw [← hx]; simp [List.getD, hj]) (by omega) (by rw [hlen]; omega) (by rw [hlen]; omega) (by rw [hmm]; show (Lib.join (r.path.map Lib.itoa) [32]).length ≤ _; omega)
          rw [hlen, hmm] at this
          refine this.mono ?_
          rintro e w' ⟨rfl, hb⟩
          refine ⟨_, rfl, by simp, ?_, hb⟩
          simp [ByteArray.size]; omega
        have HJ := Lib.hid HJ
        have HF := Lib.hid (fun (s : ByteArray) (w1 : World) (hs : s.data.toList = printB r) (hb : Below wr.heap.size wr w1) => (⟨s, rfl, hs, hP.below.trans (hb.mono (by omega))⟩ : PrintPost r w (.returned (.string s)) w1))
        clear hmm hjl hlen hkl hP
        go_wp2_with fail
        refine HJ.out.mono ?_
        rintro e w1 ⟨sj, rfl, hsj, hsz2, hb1⟩
        have HBB := Lib.hid hb1
        have HSJ := Lib.hid hsj
        clear hb1 hsj
        go_wp2
        go_ret
        refine HF.out _ _ ?_ HBB.out
        rw [HN.out, ← HSJ.out]
        simp
  have b2 : (r.kind == 2) = false := by simp [h2]
  have HF : Hid (PrintPost r w (.returned (.string ⟨#[45]⟩)) (w.alloc (.cells #[.int .i64 r.kind, .int .i64 r.cost, .slice A r.path.length c] 41))) := Lib.hid ⟨_, rfl, by simp [printB, h1, h2], (Below.refl _ _).alloc (Nat.le_refl _) _⟩
  clear h1 h2 h hn ht
  go_enter Tryd.func18, Tryd.ntmps18
  go_wp2
  go_ret
  exact HF.out
end Go.Proofs.YtidmpfenkgihjaaDoor

/- The walk of backstaylaw06.Route: a route out of raw numbers. -/
import Derived.Test.YtiehlnokidhgfaaGreatAttrX
namespace Go.Proofs.YtiehlnokidhgfaaGreat
set_option linter.unusedSimpArgs false
set_option linter.unusedVariables false
open Go.RowKit

theorem pick6_any (c n : Int) (w : World) (hc : In64 c) (hn : 0 < n) (hn2 : n < 10000000000) : Calls Tryz.prog 33 #[.int .i64 c, .int .i64 n] w fun e w' => e = .returned (.int .i64 (pickV c n)) ∧ w = w' := by
  obtain ⟨h1, h2⟩ := hc
  have hn0 : n ≠ 0 := by omega
  by_cases h : c < 0
  · have HN := Lib.hid (show pickV c n = Int.tmod (-(c + 1)) n from by unfold pickV; rw [if_pos h, Int.tmod_eq_emod_of_nonneg (by omega)])
    go_enter Tryz.func33, Tryz.ntmps33
    go_wp2
    go_ret
    exact ⟨ret_int (by rw [HN.out, Int.neg_tmod]), rfl⟩
  · have HN := Lib.hid (show pickV c n = c % n from by unfold pickV; rw [if_neg h])
    go_enter Tryz.func33, Tryz.ntmps33
    go_wp2
    go_ret
    exact ⟨ret_int (by rw [HN.out]), rfl⟩

/-! ### Plainly -/
def numOf (x : Int) : Int := if 1000 < x then 1 + pickV x 65535 else 1 + pickV x 9
def stepP (acc : List Int) (x : Int) : List Int := if acc.length < 12 then (if numOf x ∈ acc then acc else acc ++ [numOf x]) else acc
def pathOf (raw : List Int) : List Int := (raw.drop 1).foldl stepP []
def routeR (raw : List Int) : Rt :=
  match raw with
  | [] => rtNone
  | x :: r => if pickV x 4 = 0 then rtNone else if pickV x 4 = 1 then ⟨1, (match r with | [] => 0 | y :: _ => pickV y 16), []⟩ else ⟨2, 0, pathOf raw⟩
theorem numOf_in (x : Int) : 1 ≤ numOf x ∧ numOf x ≤ 65535 := by
  unfold numOf
  have h1 := pickV_in (c := x) (n := 65535) (by omega)
  have h2 := pickV_in (c := x) (n := 9) (by omega)
  split <;> omega
/-- A path that may be. -/
def PathOk (l : List Int) : Prop := l.length ≤ 12 ∧ l.Nodup ∧ ∀ x ∈ l, 1 ≤ x ∧ x ≤ 65535
theorem PathOk.step {l : List Int} (h : PathOk l) (x : Int) : PathOk (stepP l x) := by
  obtain ⟨h1, h2, h3⟩ := h
  unfold stepP
  split
  · split
    · exact ⟨h1, h2, h3⟩
    · rename_i hl hm
      refine ⟨by simp; omega, ?_, ?_⟩
      · rw [List.nodup_append]
        refine ⟨h2, by simp, ?_⟩
        intro a ha b hb
        simp at hb
        subst hb
        rintro rfl
        exact hm ha
      · intro y hy
        rcases List.mem_append.1 hy with hy | hy
        · exact h3 y hy
        · simp at hy; subst hy; exact numOf_in x
  · exact ⟨h1, h2, h3⟩
theorem pathOk_fold : ∀ (r l : List Int), PathOk l → PathOk (r.foldl stepP l)
  | [], _, h => h
  | x :: r, l, h => pathOk_fold r _ (h.step x)
theorem pathOf_ok (raw : List Int) : PathOk (pathOf raw) := pathOk_fold _ _ ⟨by simp, by simp, by simp⟩
theorem PathOk.listB {l : List Int} (h : PathOk l) : listB l = true := by
  unfold YtiehlnokidhgfaaGreat.listB
  have h3 : l.any badNum = false := by
    rw [List.any_eq_false]
    intro x hx
    have := h.2.2 x hx
    simp [badNum]; omega
  rw [h3]; simp [h.1, h.2.1]
theorem stop_fold : ∀ (r l : List Int), ¬ l.length < 12 → r.foldl stepP l = l
  | [], _, _ => rfl
  | x :: r, l, h => by
    simp only [List.foldl_cons]
    have : stepP l x = l := by unfold stepP; rw [if_neg h]
    rw [this]; exact stop_fold r l h
/-- What Route hands back may be. -/
structure RtOk (r : Rt) : Prop where
  kind : r.kind = 0 ∨ r.kind = 1 ∨ r.kind = 2
  k0 : r.kind = 0 → r = rtNone
  k1 : r.kind = 1 → 0 ≤ r.cost ∧ r.cost ≤ 15 ∧ r.path = []
  k2 : r.kind = 2 → r.cost = 0 ∧ PathOk r.path
theorem RtOk.right {r : Rt} (h : RtOk r) : rtRightB r = true := by
  rcases h.kind with e | e | e
  · rw [h.k0 e]; rfl
  · have := h.k1 e
    simp [rtRightB, e, this]
  · have := h.k2 e
    simp [rtRightB, e, this.1, this.2.listB]
theorem routeR_ok (raw : List Int) : RtOk (routeR raw) := by
  unfold routeR
  split
  · exact ⟨.inl rfl, (fun _ => rfl), (fun h => by cases h), (fun h => by cases h)⟩
  · rename_i x r
    split
    · exact ⟨.inl rfl, (fun _ => rfl), (fun h => by cases h), (fun h => by cases h)⟩
    · split
      · refine ⟨.inr (.inl rfl), (fun h => by simp at h), (fun _ => ⟨?_, ?_, rfl⟩), (fun h => by simp at h)⟩
        · dsimp only
          split
          · exact Int.le_refl _
          · exact (pickV_in (by omega)).1
        · dsimp only
          split
          · omega
          · rename_i y _ _
            have := (pickV_in (c := y) (n := 16) (by omega)).2
            omega
      · exact ⟨.inr (.inr rfl), (fun h => by simp at h), (fun h => by simp at h), (fun _ => ⟨rfl, pathOf_ok _⟩)⟩

/-! ### The walk -/
/-- The blocks of the walk: the answer's, and the route's that is being made. -/
structure RouteW (w wr : World) (l : List Int) (A : Option Addr) (c : Nat) : Prop where
  below : Below w.heap.size w wr
  size : w.heap.size + 2 ≤ wr.heap.size
  res : wr.heap[w.heap.size]? = some (.cells #[.int .i64 0, .int .i64 0, .slice none 0 0] 24 (0, 0))
  r : wr.heap[w.heap.size + 1]? = some (.cells #[.int .i64 2, .int .i64 0, .slice A l.length c] 24 (0, 0))
  own : Own wr (w.heap.size + 2) 3 1 A l.length c (ints l)
section
variable {w wr w' w2 : World} {l : List Int} {A : Option Addr} {c : Nat}
theorem RouteW.begin (w : World) : RouteW w ((w.alloc (.cells #[.int .i64 0, .int .i64 0, .slice none 0 0] 24)).alloc (.cells #[.int .i64 2, .int .i64 0, .slice none 0 0] 24)) [] none 0 where
  below := ((Below.refl _ _).alloc (Nat.le_refl _) _).alloc (by simp) _
  size := by simp
  res := (Below.heap_alloc _ _ _ (by simp)).trans (heap_alloc_new _ _)
  r := by have := heap_alloc_new (w.alloc (.cells #[.int .i64 0, .int .i64 0, .slice none 0 0] 24)) (.cells #[.int .i64 2, .int .i64 0, .slice none 0 0] 24); simpa using this
  own := Own.nil _ _ _ _
theorem RouteW.alloc (a : RouteW w wr l A c) (o : Obj) : RouteW w (wr.alloc o) l A c :=
  ⟨a.below.alloc (by have := a.size; omega) o, by have := a.size; simp; omega, (Below.heap_alloc _ _ _ (by have := a.size; omega)).trans a.res, (Below.heap_alloc _ _ _ (by have := a.size; omega)).trans a.r, a.own.alloc o⟩
theorem RouteW.at2 (a : RouteW w wr l A c) : wr.cell? ⟨w.heap.size + 1, 2, none⟩ = some (.slice A l.length c) := cell_of_row wr _ 2 _ _ _ a.r
theorem RouteW.free (a : RouteW w wr l A c) (i : Nat) : wr.frozen? ⟨w.heap.size + 1, i, none⟩ = false := frozen_of_row wr _ i _ _ a.r
theorem RouteW.grow (a : RouteW w wr l A c) (hg : wr.grownBy w2 (blk A)) : w2.heap[w.heap.size]? = some (.cells #[.int .i64 0, .int .i64 0, .slice none 0 0] 24 (0, 0)) ∧ w2.heap[w.heap.size + 1]? = some (.cells #[.int .i64 2, .int .i64 0, .slice A l.length c] 24 (0, 0)) := by
  have hs := a.size
  exact ⟨(hg.block _ (by omega) (fun e => by have := a.own.from_ _ e.symm; omega)).trans a.res, (hg.block _ (by omega) (fun e => by have := a.own.from_ _ e.symm; omega)).trans a.r⟩
theorem RouteW.cell2 (a : RouteW w wr l A c) (hg : wr.grownBy w2 (blk A)) : w2.cell? ⟨w.heap.size + 1, 2, none⟩ = some (.slice A l.length c) := cell_of_row w2 _ 2 _ _ _ (a.grow hg).2
theorem RouteW.free2 (a : RouteW w wr l A c) (hg : wr.grownBy w2 (blk A)) (i : Nat) : w2.frozen? ⟨w.heap.size + 1, i, none⟩ = false := frozen_of_row w2 _ i _ _ (a.grow hg).2
theorem RouteW.app (a : RouteW w wr l A c) {x : Int} {A2 : Option Addr} {c2 n : Nat} (hn : n = l.length + 1) (hg : wr.grownBy w2 (blk A)) (hown : Own w2 (w.heap.size + 2) 3 1 A2 n c2 (ints l ++ [.int .i64 x])) :
    RouteW w (w2.setCell ⟨w.heap.size + 1, 2, none⟩ (.slice A2 n c2)) (l ++ [x]) A2 c2 := by
  subst hn
  obtain ⟨h1, h2⟩ := a.grow hg
  have hs := a.size
  have hgs := hg.size
  refine ⟨(a.below.grown hg (by omega) (fun g hg => by have := a.own.from_ g hg; omega)).setCell (by simp) _, by simp [World.setCell]; omega, (Below.heap_setCell _ _ _ _ (by simp)).trans h1, ?_, ?_⟩
  · rw [heap_setCell_same _ _ _ _ _ _ h2]; simp
  · have := hown.setCell_far (p := ⟨w.heap.size + 1, 2, none⟩) (fun g hg => by have := hown.from_ g hg; simp; omega) (.slice A2 (l.length + 1) c2)
    simpa [ints] using this
theorem RouteW.resAt (a : RouteW w wr l A c) : wr.cell? ⟨w.heap.size, 0, none⟩ = some (.int .i64 0) ∧ wr.cell? ⟨w.heap.size, 1, none⟩ = some (.int .i64 0) ∧ wr.cell? ⟨w.heap.size, 2, none⟩ = some (.slice none 0 0) :=
  ⟨cell_of_row wr _ 0 _ _ _ a.res, cell_of_row wr _ 1 _ _ _ a.res, cell_of_row wr _ 2 _ _ _ a.res⟩
theorem RouteW.resFree (a : RouteW w wr l A c) (i : Nat) : wr.frozen? ⟨w.heap.size, i, none⟩ = false := frozen_of_row wr _ i _ _ a.res
theorem RouteW.rAt (a : RouteW w wr l A c) : wr.cell? ⟨w.heap.size + 1, 0, none⟩ = some (.int .i64 2) ∧ wr.cell? ⟨w.heap.size + 1, 1, none⟩ = some (.int .i64 0) ∧ wr.cell? ⟨w.heap.size + 1, 2, none⟩ = some (.slice A l.length c) :=
  ⟨cell_of_row wr _ 0 _ _ _ a.r, cell_of_row wr _ 1 _ _ _ a.r, cell_of_row wr _ 2 _ _ _ a.r⟩
end
def RoutePost (raw : List Int) (w : World) (e : Ending) (w' : World) : Prop :=
  ∃ A c, e = .returned (rtV (routeR raw) A c) ∧ Own w' w.heap.size 3 1 A (routeR raw).path.length c (ints (routeR raw).path) ∧ Below w.heap.size w w'
theorem RouteW.answer {w wr : World} {raw l : List Int} {A : Option Addr} {c : Nat} (a : RouteW w wr l A c) (h : routeR raw = ⟨2, 0, l⟩) :
    RoutePost raw w (.returned (rtV ⟨2, 0, l⟩ A c)) (((wr.setCell ⟨w.heap.size, 0, none⟩ (.int .i64 2)).setCell ⟨w.heap.size, 1, none⟩ (.int .i64 0)).setCell ⟨w.heap.size, 2, none⟩ (.slice A l.length c)) := by
  have hf : ∀ {wx : World} (i : Nat) (v : Value), Own wx (w.heap.size + 2) 3 1 A l.length c (ints l) → Own (wx.setCell ⟨w.heap.size, i, none⟩ v) (w.heap.size + 2) 3 1 A l.length c (ints l) :=
    fun i v h => h.setCell_far (fun g hg => by have := h.from_ g hg; simp; omega) v
  refine ⟨A, c, by rw [h], ?_, ((a.below.setCell (by simp) _).setCell (by simp) _).setCell (by simp) _⟩
  rw [h]
  exact (hf _ _ (hf _ _ (hf _ _ a.own))).more (by omega)
set_option maxRecDepth 100000 in
set_option maxHeartbeats 2000000 in
theorem route_any (raw : List Int) (A0 : Option Addr) (c0 : Nat) (w : World) (h : Rd w w.heap.size 1 A0 raw.length (ints raw)) (hi : ∀ x ∈ raw, In64 x) (hl : raw.length ≤ maxLen) :
    Calls Tryz.prog 16 #[.slice A0 raw.length c0] w (RoutePost raw w) := by
  unfold maxLen at hl
  have HN0 : Hid (routeR raw = rtNone → RoutePost raw w (.returned (rtV rtNone none 0)) (w.alloc (.cells #[.int .i64 0, .int .i64 0, .slice none 0 0] 24))) := Lib.hid (fun h =>
    ⟨none, 0, by rw [h], by rw [h]; exact Own.nil _ _ _ _, (Below.refl _ _).alloc (Nat.le_refl _) _⟩)
  have HN1 : Hid (∀ v : Int, routeR raw = ⟨1, v, []⟩ → RoutePost raw w (.returned (rtV ⟨1, v, []⟩ none 0)) (w.alloc (.cells #[.int .i64 1, .int .i64 v, .slice none 0 0] 24))) := Lib.hid (fun v h =>
    ⟨none, 0, by rw [h], by rw [h]; exact Own.nil _ _ _ _, (Below.refl _ _).alloc (Nat.le_refl _) _⟩)
  rcases raw with _ | ⟨x0, r⟩
  · have HF := Lib.hid (HN0.out rfl)
    clear h hi HN0 HN1
    go_enter Tryz.func16, Tryz.ntmps16
    go_wp2
    exact bodyPost_ret (v := rtV rtNone none 0) (by simp [results, Tryz.results16, go_sem, rtV, rtNone]) rfl HF.out
  obtain ⟨b, o, rfl, hb, hc0⟩ := h.one (i := 0) (x := .int .i64 x0) rfl
  have hI0 := Lib.hid (hi x0 (by simp))
  have HH := Lib.hid h
  have HI := Lib.hid hi
  have hk0 := pickV_in (c := x0) (n := 4) (by omega)
  obtain ⟨hk00, hk01⟩ := hk0
  simp only [List.length_cons] at hl ⊢
  simp only [Nat.add_zero] at hc0
  have hln : ¬ ((r.length : Int) + 1 = 0) := by omega
  by_cases h0 : pickV x0 4 = 0
  · have HF := Lib.hid (HN0.out (by simp [routeR, h0]))
    have HZ := Lib.hid h0
    clear h hi HN0 HN1 h0
    go_enter Tryz.func16, Tryz.ntmps16
    go_wp2_with (go_at_call 33; refine (pick6_any _ _ _ hI0.out (by omega) (by omega)).mono ?_; rintro e w' ⟨rfl, rfl⟩; rw [HZ.out])
    exact bodyPost_ret (v := rtV rtNone none 0) (by simp [results, Tryz.results16, go_sem, rtV, rtNone]) rfl HF.out
  by_cases h1 : pickV x0 4 = 1
  · have HZ := Lib.hid h1
    rcases r with _ | ⟨x1, r⟩
    · have HF := Lib.hid (HN1.out 0 (by simp [routeR, h1]))
      clear h hi HN0 HN1 h0 h1
      go_enter Tryz.func16, Tryz.ntmps16
      go_wp2_with (go_at_call 33; refine (pick6_any _ _ _ hI0.out (by omega) (by omega)).mono ?_; rintro e w' ⟨rfl, rfl⟩; rw [HZ.out])
      exact bodyPost_ret (v := rtV ⟨1, 0, []⟩ none 0) (by simp [results, Tryz.results16, go_sem, rtV]) rfl HF.out
    · have HF := Lib.hid (HN1.out (pickV x1 16) (by simp [routeR, h1]))
      obtain ⟨b', o', e', _, hc1⟩ := h.one (i := 1) (x := .int .i64 x1) rfl
      injection e' with e'
      injection e' with e1 e2
      subst e1 e2
      have hI1 := Lib.hid (hi x1 (by simp))
      simp only [List.length_cons] at hl ⊢
      clear h hi HN0 HN1 h0 h1
      go_enter Tryz.func16, Tryz.ntmps16
      go_wp2_with fail
      refine (pick6_any x0 4 _ hI0.out (by omega) (by omega)).mono ?_
      rintro e w' ⟨rfl, rfl⟩
      rw [HZ.out]
      go_wp2_with fail
      refine (pick6_any x1 16 _ hI1.out (by omega) (by omega)).mono ?_
      rintro e w' ⟨rfl, rfl⟩
      go_wp2
      exact bodyPost_ret (v := rtV ⟨1, pickV x1 16, []⟩ none 0) (by simp [results, Tryz.results16, go_sem, rtV]) rfl HF.out
  have HR := Lib.hid (show routeR (x0 :: r) = ⟨2, 0, pathOf (x0 :: r)⟩ from by simp [routeR, h0, h1])
  have hz0 : (pickV x0 4 == 0) = false := by simp [h0]
  have hz1 : (pickV x0 4 == 1) = false := by simp [h1]
  obtain ⟨i0, hi0, hzz0, hzs0, hzb0⟩ := info_parts Tryz.info_int
  clear h hi HN0 HN1 h0 h1
  go_enter Tryz.func16, Tryz.ntmps16
  go_wp2_with (go_at_call 33; refine (pick6_any _ _ _ hI0.out (by omega) (by omega)).mono ?_; rintro e w' ⟨rfl, rfl⟩)
  go_loopw [5] (fun i wr => ∃ (k : Nat) (l : List Int) (A : Option Addr) (c : Nat), k ≤ r.length ∧ i = .int .i64 ((k : Int) + 1) ∧ l = (r.take k).foldl stepP [] ∧ RouteW w wr l A c) (fun i _ => r.length + 1 - (intOf i).toNat)
  case atStart => exact ⟨0, [], none, 0, Nat.zero_le _, rfl, rfl, RouteW.begin w⟩
  case round =>
    obtain ⟨k, l, A, c, hk, rfl, hlf, hW⟩ := hrel
    have HLF := Lib.hid hlf
    have hok : PathOk l := by rw [hlf]; exact pathOk_fold _ _ ⟨by simp, by simp, by simp⟩
    have h12 := hok.1
    have HK := Lib.hid hok
    have HW := Lib.hid hW
    have hsz := hW.size
    have ha2 := hW.at2
    clear hlf hok
    by_cases hlt : k < r.length
    · have hltz : (k : Int) + 1 < (r.length : Int) + 1 := by omega
      by_cases hl12 : l.length < 12
      · have hl12z : (l.length : Int) < 12 := by omega
        obtain ⟨x, hx⟩ : ∃ x, r[k]? = some x := ⟨_, List.getElem?_eq_getElem hlt⟩
        obtain ⟨b', o', e', _, hcx⟩ := (HH.out.below hW.below (Nat.le_refl _)).one (i := k + 1) (x := .int .i64 x) (by simp [ints, hx])
        injection e' with e'
        injection e' with e1 e2
        subst e1 e2
        have hxI := Lib.hid (HI.out x (List.mem_cons_of_mem _ (List.mem_of_getElem? hx)))
        have HS := Lib.hid (show (r.take (k + 1)).foldl stepP [] = stepP l x from by rw [List.take_add_one, hx]; simp [← HLF.out])
        have hi0' : (0 : Int) ≤ (k : Int) + 1 := by omega
        have hin : ((k : Int) + 1).toNat = k + 1 := by omega
        have hp9 := pickV_in (c := x) (n := 9) (by omega)
        obtain ⟨hp90, hp91⟩ := hp9
        have hp6 := pickV_in (c := x) (n := 65535) (by omega)
        obtain ⟨hp60, hp61⟩ := hp6
        clear hx hW
        go_upto_if 54 with (go_at_call 33; refine (pick6_any _ 9 _ hxI.out (by omega) (by omega)).mono ?_; rintro e w' ⟨rfl, rfl⟩)
        go_cut [6] (fun n wx => n = .int .i64 (numOf x) ∧ wx = wr)
        case first =>
          by_cases hx1 : 1000 < x
          · have HN := Lib.hid (show numOf x = 1 + pickV x 65535 from by unfold numOf; rw [if_pos hx1])
            go_wp2_with (go_at_call 33; refine (pick6_any _ 65535 _ hxI.out (by omega) (by omega)).mono ?_; rintro e w' ⟨rfl, rfl⟩)
            go_meet
            case rel => exact ⟨by rw [HN.out], rfl⟩
          · have HN := Lib.hid (show numOf x = 1 + pickV x 9 from by unfold numOf; rw [if_neg hx1])
            have hx1' : x ≤ 1000 := by omega
            go_wp2_with fail
            go_meet
            case rel => exact ⟨by rw [HN.out], rfl⟩
        case rest =>
        obtain ⟨rfl, rfl⟩ := hcut
        go_wp2_with fail
        go_loop [7, 8] (fun here q => ∃ (n : Nat) (hb : Bool), n ≤ l.length ∧ q = .int .i64 n ∧ here = .bool hb ∧ hb = decide (numOf x ∈ l.take n)) (fun _ q => l.length - (intOf q).toNat)
        case atStart => exact ⟨0, false, Nat.zero_le _, rfl, rfl, by simp⟩
        case round =>
          obtain ⟨n, hb, hn, rfl, rfl, hbe⟩ := hrel
          have HE := Lib.hid hbe
          clear hbe
          by_cases hnl : n < l.length
          · obtain ⟨y, hy⟩ : ∃ y, l[n]? = some y := ⟨_, List.getElem?_eq_getElem hnl⟩
            obtain ⟨b3, o3, e3, _, hcy⟩ := HW.out.own.rd.one (i := n) (x := .int .i64 y) (by simp [ints, hy])
            have HA := Lib.hid e3
            rw [e3] at ha2
            have HT := Lib.hid (show decide (numOf x ∈ l.take (n + 1)) = (hb || decide (y = numOf x)) from by
              rw [List.take_add_one, hy, HE.out, Bool.eq_iff_iff]
              simp
              constructor
              · rintro (h | h)
                · exact .inl h
                · exact .inr h.symm
              · rintro (h | h)
                · exact .inl h
                · exact .inr h.symm)
            clear hy e3
            cases hb with
            | true =>
              go_wp2_with fail
              go_round
              case rel => exact ⟨n + 1, true, by omega, by go_num, rfl, by rw [HT.out]; rfl⟩
              case measure => simp [intOf]; omega
            | false =>
              go_wp2_with fail
              go_round
              case rel => exact ⟨n + 1, _, by omega, by go_num, rfl, by rw [HT.out]; rw [Bool.eq_iff_iff]; simp⟩
              case measure => simp [intOf]; omega
          · have hbl : hb = decide (numOf x ∈ l) := by
              have := HE.out
              rwa [List.take_of_length_le (by omega)] at this
            cases hb with
            | true =>
              have HF := Lib.hid (show stepP l x = l from by unfold stepP; rw [if_pos hl12, if_pos (by simpa using hbl.symm)])
              clear hbl
              go_wp2_with fail
              go_roundw
              case rel => exact ⟨k + 1, l, A, c, by omega, by go_num, by rw [HS.out, HF.out], HW.out⟩
              case measure => simp [intOf]; omega
            | false =>
              have HF := Lib.hid (show stepP l x = l ++ [numOf x] from by unfold stepP; rw [if_pos hl12, if_neg (by simpa using hbl.symm)])
              clear hbl
              go_wp2_with (at_builtin; refine wpList_app _ rfl _ _ 22 rfl (w.heap.size + 2) 3 i0 (.int .i64 0) 1 8 Tryz.underlying22 hi0 hzz0 hzs0 hzb0 rfl (by decide) _ _ _ (ints l) rfl (by exact (HW.out.alloc _).own) _ 1 _ [.int .i64 (numOf x)] rfl (Rd.new (by simp) rfl) (by intro u hu; simp at hu; subst hu; rfl) (by unfold maxLen; omega) (by omega) (by simp; omega) ?_; intro A2 c2 w2 hown2 hgrow2 hblk2 _; (have d2 := (HW.out.alloc _).cell2 hgrow2); (have e2 := (HW.out.alloc _).free2 hgrow2 2); (have W2 := (HW.out.alloc _).app (by rfl) hgrow2 hown2))
              clear hgrow2 hown2 hblk2 d2 e2
              go_roundw
              case rel => exact ⟨k + 1, _, A2, c2, by omega, by go_num, by rw [HS.out, HF.out], W2⟩
              case measure => simp [intOf]; omega
      · have hl12z : ¬ (l.length : Int) < 12 := by omega
        have HP := Lib.hid (HW.out.answer (raw := x0 :: r) (by rw [HR.out]; congr 1; unfold pathOf; rw [List.drop_one, List.tail_cons, ← List.take_append_drop k r, List.foldl_append, ← HLF.out, stop_fold _ _ hl12]))
        obtain ⟨m0, m1, m2⟩ := HW.out.rAt
        obtain ⟨r0, r1, r2⟩ := HW.out.resAt
        have rf0 := HW.out.resFree 0
        have rf1 := HW.out.resFree 1
        have rf2 := HW.out.resFree 2
        clear hW
        go_wp2
        exact bodyPost_ret (v := rtV ⟨2, 0, l⟩ A c) (by simp [results, Tryz.results16, go_sem, rtV, m0, m1, m2, r0, r1, r2]) rfl HP.out
    · have hge : ¬ (k : Int) + 1 < (r.length : Int) + 1 := by omega
      have hkl : k = r.length := by omega
      have HP := Lib.hid (HW.out.answer (raw := x0 :: r) (by rw [HR.out]; congr 1; unfold pathOf; rw [List.drop_one, List.tail_cons, HLF.out, hkl, List.take_length]))
      obtain ⟨m0, m1, m2⟩ := HW.out.rAt
      obtain ⟨r0, r1, r2⟩ := HW.out.resAt
      have rf0 := HW.out.resFree 0
      have rf1 := HW.out.resFree 1
      have rf2 := HW.out.resFree 2
      clear hW hkl
      go_wp2
      exact bodyPost_ret (v := rtV ⟨2, 0, l⟩ A c) (by simp [results, Tryz.results16, go_sem, rtV, m0, m1, m2, r0, r1, r2]) rfl HP.out
end Go.Proofs.YtiehlnokidhgfaaGreat

/- The walks of short.Ways, between, links and Along. -/
import Derived.Test.YtlnnmjomdblciaaGreatShortS
namespace Go.Proofs.YtlnnmjomdblciaaGreat
set_option linter.unusedSimpArgs false
set_option linter.unusedVariables false
open Go.RowKit

section
theorem snode_any (p : Net) (h : Hd) (n : Int) (w : World) (hp : NetR w w.heap.size p h) (hg : Good p) : Calls Tryz.prog 55 #[netV p h, .int .i64 n] w fun e w' => e = .returned (.bool (placeB n p.nodes.length)) ∧ Below w.heap.size w w' := by
  have HA := Lib.hid (AtRight.begin hp)
  have HG := Lib.hid hg
  clear hp hg
  unfold netV netVal
  have HN := Lib.hid (show placeB n p.nodes.length = (decide (0 ≤ n) && decide (n < p.nodes.length)) from by unfold placeB; simp)
  by_cases h0 : 0 ≤ n
  · by_cases h1 : n < p.nodes.length
    · go_enter Tryz.func55, Tryz.ntmps55
      go_wp2_with fail
      refine (right_any p h _ HA.out.net HG.out.small HG.out.names).mono ?_
      rintro e w1 ⟨rfl, hb1⟩
      rw [HG.out.right]
      have HA1 := Lib.hid (HA.out.call hb1)
      obtain ⟨c0, c1, c2, c3, c4, c5, c6⟩ := HA1.out.all
      clear hb1
      go_wp2
      go_ret
      exact ⟨ret_bool (by rw [HN.out]; simp [h0, h1]), HA1.out.below⟩
    · go_enter Tryz.func55, Tryz.ntmps55
      go_wp2_with fail
      refine (right_any p h _ HA.out.net HG.out.small HG.out.names).mono ?_
      rintro e w1 ⟨rfl, hb1⟩
      rw [HG.out.right]
      have HA1 := Lib.hid (HA.out.call hb1)
      obtain ⟨c0, c1, c2, c3, c4, c5, c6⟩ := HA1.out.all
      clear hb1
      go_wp2
      go_ret
      exact ⟨ret_bool (by rw [HN.out]; simp [h0, h1]), HA1.out.below⟩
  · go_enter Tryz.func55, Tryz.ntmps55
    go_wp2_with fail
    refine (right_any p h _ HA.out.net HG.out.small HG.out.names).mono ?_
    rintro e w1 ⟨rfl, hb1⟩
    rw [HG.out.right]
    have HA1 := Lib.hid (HA.out.call hb1)
    obtain ⟨c0, c1, c2, c3, c4, c5, c6⟩ := HA1.out.all
    clear hb1
    go_wp2
    go_ret
    exact ⟨ret_bool (by rw [HN.out]; simp; omega), HA1.out.below⟩
theorem snode_in {p : Net} {h : Hd} {n : Nat} {w : World} (hp : NetR w w.heap.size p h) (hg : Good p) (hn : n < p.nodes.length) : Calls Tryz.prog 55 #[netV p h, .int .i64 (n : Int)] w fun e w' => e = .returned (.bool true) ∧ Below w.heap.size w w' := by
  have h1 := snode_any p h n w hp hg
  rwa [show placeB (n : Int) p.nodes.length = true from by unfold placeB; simp; omega] at h1
set_option maxRecDepth 100000 in
theorem ways_any (p : Net) (h : Hd) (f : Int) (a b : Nat) (w : World) (hp : NetR w w.heap.size p h) (hg : Good p) (h7 : p.nodes.length ≤ 7) (ha : a < p.nodes.length) (hb : b < p.nodes.length) :
    Calls Tryz.prog 23 #[netV p h, .int .i64 f, .int .i64 (a : Int), .int .i64 (b : Int)] w (WaysPost w.heap.size (waysN p f a b) w) := by
  have HA := Lib.hid (AtRight.begin hp)
  have HP := Lib.hid hp
  have HG := Lib.hid hg
  have HL := Lib.hid (waysN_len p f a b (by omega) h7)
  clear hp hg
  unfold netV netVal
  go_enter Tryz.func23, Tryz.ntmps23
  go_wp2_with fail
  refine (snode_in HA.out.net HG.out ha).mono ?_
  rintro e w1 ⟨rfl, hb1⟩
  have HA1 := Lib.hid (HA.out.call hb1)
  obtain ⟨c0, c1, c2, c3, c4, c5, c6⟩ := HA1.out.all
  clear hb1
  go_wp2_with fail
  refine (snode_in HA1.out.net HG.out hb).mono ?_
  rintro e w2 ⟨rfl, hb2⟩
  have HA2 := Lib.hid (HA1.out.call hb2)
  clear hb2 c0 c1 c2 c3 c4 c5 c6
  obtain ⟨c0, c1, c2, c3, c4, c5, c6⟩ := HA2.out.all
  go_upto_region 3 with fail
  go_wp2_with fail
  refine (all_any p h f b a w2).mono ?_
  rintro e w3 ⟨rfl, rfl⟩
  have BB := Lib.hid HA2.out.below
  have HN2 : Hid (NetR w2 w.heap.size p h) := Lib.hid (HP.out.below BB.out (Nat.le_refl _))
  have hbel3 : Below w2.heap.size w2 ((w2.alloc (.cells (wkCells p h f b) 93)).alloc (.cells #[.int .i64 (a : Int)] 3)) := ((Below.refl _ _).alloc (Nat.le_refl _) _).alloc (by simp) _
  have x1 : ((w2.alloc (.cells (wkCells p h f b) 93)).alloc (.cells #[.int .i64 (a : Int)] 3)).heap[w2.heap.size]? = some (.cells (wkCells p h f b) 93 (0, 0)) := (Below.heap_alloc _ _ _ (by simp)).trans (heap_alloc_new _ _)
  have x2 : ((w2.alloc (.cells (wkCells p h f b) 93)).alloc (.cells #[.int .i64 (a : Int)] 3)).heap[w2.heap.size + 1]? = some (.cells #[.int .i64 (a : Int)] 3 (0, 0)) := by
    have := heap_alloc_new (w2.alloc (.cells (wkCells p h f b) 93)) (.cells #[.int .i64 (a : Int)] 3)
    rwa [World.size_alloc] at this
  have HB3 := Lib.hid (since_trans BB.out hbel3)
  have h03 : w.heap.size ≤ ((w2.alloc (.cells (wkCells p h f b) 93)).alloc (.cells #[.int .i64 (a : Int)] 3)).heap.size := HB3.out.size
  have HIT := Lib.hid ((all_iter HG.out (HN2.out.below hbel3 BB.out.size) h03 f a b ha x1 x2 10000000 HL.out).weak (Pre' := WayP w.heap.size) (fun _ _ _ h => h.2))
  clear x1 x2 hbel3 c0 c1 c2 c3 c4 c5 c6
  generalize ((w2.alloc (.cells (wkCells p h f b) 93)).alloc (.cells #[.int .i64 (a : Int)] 3)) = w3 at *
  go_wp2_with fail
  refine (collect_any (n0 := w.heap.size) (N := 10000000) (by decide) w3 h03 (by
    intro W args
    have e1 : ¬ (Tryz.f92.name = "runtime.NumGoroutine") := by decide +kernel
    have e2 : ¬ (Tryz.f92.body = none) := fun e => by cases e
    simp [callFunc, go_sem, e1, e2]) HIT.out).mono ?_
  rintro e w4 ⟨Z, A, c, rfl, hm, hw, hb4⟩
  have HF : Hid (WaysPost w.heap.size (waysN p f a b) w (.returned (.slice A Z.length c)) w4) := Lib.hid ⟨Z, A, c, rfl, hm, ⟨hw.row.more h03, hw.za, hw.each⟩, since_trans HB3.out hb4⟩
  clear hm hw hb4
  go_wp2
  go_ret
  exact HF.out
theorem isBet_bool (u v : Nat) (x : Lk) : isBet u v x = ((x.a == min (u : Int) (v : Int)) && (x.b == max (u : Int) (v : Int))) := by
  unfold isBet
  rw [Bool.eq_iff_iff]
  simp only [Bool.and_eq_true, decide_eq_true_eq, beq_iff_eq]
  omega
theorem bet1_any (u v : Nat) (x : Lk) (b1 b2 : Nat) (w : World) (h1 : w.cell? ⟨b1, 0, none⟩ = some (.int .i64 (u : Int))) (h2 : w.cell? ⟨b2, 0, none⟩ = some (.int .i64 (v : Int))) :
    Calls Tryz.prog 128 #[.agg #[.int .i64 x.a, .int .i64 x.b, .int .i64 x.cost], .pointer (some ⟨b1, 0, none⟩), .pointer (some ⟨b2, 0, none⟩)] w fun e w' => e = .returned (.bool (isBet u v x)) ∧ Below w.heap.size w w' := by
  have hl1 := cell_lt h1
  have hl2 := cell_lt h2
  simp only at hl1 hl2
  by_cases ha : (x.a == min (u : Int) (v : Int)) = true
  · have HN := Lib.hid (show isBet u v x = (x.b == max (u : Int) (v : Int)) from by rw [isBet_bool, ha]; rfl)
    go_enter Tryz.func128, Tryz.ntmps128
    go_wp2
    go_ret
    exact ⟨ret_bool (by rw [HN.out]), (Below.refl _ _).alloc (Nat.le_refl _) _⟩
  · replace ha : (x.a == min (u : Int) (v : Int)) = false := by simpa using ha
    have HN := Lib.hid (show isBet u v x = false from by rw [isBet_bool, ha]; rfl)
    go_enter Tryz.func128, Tryz.ntmps128
    go_wp2
    go_ret
    exact ⟨ret_bool (by rw [HN.out]), (Below.refl _ _).alloc (Nat.le_refl _) _⟩
def FindPost (o : Option Nat) (w : World) (e : Ending) (w' : World) : Prop := e = .returned (.int .i64 (match o with | some i => (i : Int) | none => -1)) ∧ Below w.heap.size w w'
set_option maxHeartbeats 1000000 in
theorem ixLink (u v : Nat) (l : List Lk) (b1 b2 : Nat) (A : Option Addr) (c : Nat) (w : World) (h : Rd w w.heap.size 3 A l.length (l.flatMap lkCells)) (hl : l.length ≤ 10000) (h1 : w.cell? ⟨b1, 0, none⟩ = some (.int .i64 (u : Int))) (h2 : w.cell? ⟨b2, 0, none⟩ = some (.int .i64 (v : Int))) :
    Calls Tryz.prog 127 #[.slice A l.length c, .func (.func 128) #[] #[.pointer (some ⟨b1, 0, none⟩), .pointer (some ⟨b2, 0, none⟩)]] w (FindPost (l.findIdx? (isBet u v)) w) := by
  have HR := Lib.hid h
  have hl1 := cell_lt h1
  have hl2 := cell_lt h2
  simp only at hl1 hl2
  have H1 := Lib.hid (fun (wy : World) (hb : Below w.heap.size w wy) => (hb.cell (p := ⟨b1, 0, none⟩) hl1).trans h1)
  have H2 := Lib.hid (fun (wy : World) (hb : Below w.heap.size w wy) => (hb.cell (p := ⟨b2, 0, none⟩) hl2).trans h2)
  clear h h1 h2
  go_enter Tryz.func127, Tryz.ntmps127
  go_wp2_with fail
  go_loopw [8] (fun i wr => ∃ k : Nat, k ≤ l.length ∧ i = .int .i64 k ∧ (∀ j x, j < k → l[j]? = some x → isBet u v x = false) ∧ Below w.heap.size w wr) (fun i _ => l.length - (intOf i).toNat)
  case atStart => exact ⟨0, Nat.zero_le _, rfl, by intro j x h; omega, Below.refl _ _⟩
  case round =>
    obtain ⟨k, hk, rfl, hall, hbel⟩ := hrel
    have HA := Lib.hid hall
    have HB := Lib.hid hbel
    clear hall hbel
    by_cases hlt : k < l.length
    · obtain ⟨x, hx⟩ : ∃ x, l[k]? = some x := ⟨_, List.getElem?_eq_getElem hlt⟩
      have hlt' : (k : Int) < (l.length : Int) := by omega
      have hk0 : (0 : Int) ≤ (k : Int) := by omega
      obtain ⟨b, o, rfl, hb, c0, c1, c2⟩ := (HR.out.below HB.out (Nat.le_refl _)).link hx
      have HX := Lib.hid hx
      have BT := Lib.hid (bet1_any u v x b1 b2 wr (H1.out _ HB.out) (H2.out _ HB.out))
      clear hx
      cases hbt : isBet u v x with
      | true =>
        rw [hbt] at BT
        have HF : Hid (l.findIdx? (isBet u v) = some k) := Lib.hid (by
          rw [List.findIdx?_eq_some_iff_getElem]
          obtain ⟨h1, h2⟩ := List.getElem?_eq_some_iff.1 HX.out
          refine ⟨h1, by rw [h2]; exact hbt, fun j hj => ?_⟩
          have := HA.out j l[j] hj (List.getElem?_eq_getElem _)
          rw [this]; simp)
        clear hbt
        go_wp2_with (go_at_call 128; refine BT.out.mono ?_; rintro e w2 ⟨rfl, hb2⟩)
        go_ret
        refine ⟨?_, since_trans HB.out hb2⟩
        rw [HF.out]; rfl
      | false =>
        rw [hbt] at BT
        have HN := Lib.hid hbt
        clear hbt
        go_wp2_with (go_at_call 128; refine BT.out.mono ?_; rintro e w2 ⟨rfl, hb2⟩)
        go_roundw
        case rel =>
          refine ⟨k + 1, by omega, by go_num, fun j y hj hy => ?_, since_trans HB.out hb2⟩
          by_cases e : j = k
          · subst e; rw [HX.out] at hy; injection hy with hy; rw [← hy]; exact HN.out
          · exact HA.out j y (by omega) hy
        case measure => simp [intOf]; omega
    · have hlt' : (l.length : Int) ≤ (k : Int) := by omega
      have HF : Hid (l.findIdx? (isBet u v) = none) := Lib.hid (by
        rw [List.findIdx?_eq_none_iff]
        intro x hx
        obtain ⟨j, hj, rfl⟩ := List.mem_iff_getElem.1 hx
        exact HA.out j _ (by omega) (List.getElem?_eq_getElem hj))
      clear hlt
      go_wp2
      go_ret
      refine ⟨?_, HB.out⟩
      rw [HF.out]; rfl
theorem between_any (p : Net) (h : Hd) (f : Int) (u v : Nat) (w : World) (hp : NetR w w.heap.size p h) (hl : p.links.length ≤ 1000) :
    Calls Tryz.prog 99 #[netV p h, .int .i64 f, .int .i64 (u : Int), .int .i64 (v : Int)] w fun e w' => e = .returned (.int .i64 (betI p.links f u v)) ∧ Below w.heap.size w w' := by
  have HP := Lib.hid hp
  clear hp
  have HB : Hid (Bl w (((w.alloc (.cells (netCells p h) 31)).alloc (.cells #[.int .i64 (u : Int)] 3)).alloc (.cells #[.int .i64 (v : Int)] 3)) [.cells (netCells p h) 31, .cells #[.int .i64 (u : Int)] 3, .cells #[.int .i64 (v : Int)] 3]) :=
    Lib.hid ((((Bl.begin w).push (by simp) _).push (by simp) _).push (by simp) _)
  unfold netV netVal
  unfold netCells at HB
  go_enter Tryz.func99, Tryz.ntmps99
  go_upto_region 1 with fail
  try simp only [World.size_alloc]
  generalize (((w.alloc (.cells #[.int .i64 p.proto, .int .i64 p.cap, .int .i64 p.k, .slice h.an p.nodes.length h.cn, .slice h.al p.links.length h.cl, .slice h.ad p.dests.length h.cd, .slice h.ac p.checks.length h.cc] 31)).alloc (.cells #[.int .i64 (u : Int)] 3)).alloc (.cells #[.int .i64 (v : Int)] 3)) = w1 at *
  have g4 : w1.cell? ⟨w.heap.size, 4, none⟩ = some (.slice h.al p.links.length h.cl) := HB.out.cell (i := 0) (k := 4) rfl
  have NR := Lib.hid (HP.out.call HB.out.below)
  go_wp2_with fail
  refine (ixLink u v p.links (w.heap.size + 1) (w.heap.size + 1 + 1) h.al h.cl w1 NR.out.links (by omega) (HB.out.cell (i := 1) (k := 0) rfl) (HB.out.cell (i := 2) (k := 0) rfl)).mono ?_
  rintro e w2 ⟨rfl, hb2⟩
  have B2 := Lib.hid (since_trans HB.out.below hb2)
  clear hb2 g4
  cases hfi : p.links.findIdx? (isBet u v) with
  | none =>
    have HF : Hid (betI p.links f u v = -1) := Lib.hid (by unfold betI; rw [hfi])
    clear hfi
    go_wp2
    go_ret
    exact ⟨ret_int HF.out.symm, B2.out⟩
  | some i =>
    have hi0 : (0 : Int) ≤ (i : Int) := by omega
    cases hf : hasB f i with
    | true =>
      have HF : Hid (betI p.links f u v = -1) := Lib.hid (by unfold betI; rw [hfi]; simp [hf])
      clear hfi
      go_wp2_with (go_at_call 100; refine (has_any _ _ _).mono ?_; rintro e w' ⟨rfl, rfl⟩; rw [hf])
      go_ret
      exact ⟨ret_int HF.out.symm, B2.out⟩
    | false =>
      have HF : Hid (betI p.links f u v = i) := Lib.hid (by unfold betI; rw [hfi]; simp [hf])
      clear hfi
      go_wp2_with (go_at_call 100; refine (has_any _ _ _).mono ?_; rintro e w' ⟨rfl, rfl⟩; rw [hf])
      go_ret
      exact ⟨ret_int HF.out.symm, B2.out⟩
/-- The links of a way. -/
def betsL (L : List Lk) (f : Int) : List Nat → List Int
  | [] => []
  | [_] => []
  | u :: v :: t => betI L f u v :: betsL L f (v :: t)
theorem bets_len (L : List Lk) (f : Int) : ∀ q : List Nat, (betsL L f q).length = q.length - 1
  | [] => rfl
  | [_] => rfl
  | u :: v :: t => by simp only [betsL, List.length_cons, bets_len L f (v :: t)]; omega
theorem bets_at (L : List Lk) (f : Int) : ∀ (q : List Nat) (i u v : Nat), q[i]? = some u → q[i + 1]? = some v → (betsL L f q)[i]? = some (betI L f u v)
  | [], i, u, v, h, _ => by simp at h
  | [x], i, u, v, _, h => by simp at h
  | x :: y :: t, 0, u, v, h1, h2 => by simp at h1 h2; subst h1 h2; rfl
  | x :: y :: t, i + 1, u, v, h1, h2 => by
    simp only [betsL, List.getElem?_cons_succ]
    exact bets_at L f (y :: t) i u v (by simpa using h1) (by simpa using h2)
theorem Rd.at1 {w : World} {B n : Nat} {bb oo i : Nat} {L : List Value} {x : Value} (h : Rd w B 1 (some ⟨bb, oo, none⟩) n L) (hi : L[i]? = some x) : w.cell? ⟨bb, oo + i, none⟩ = some x := by
  obtain ⟨b, o, e, _, hc⟩ := h.one hi
  injection e with e
  injection e with e1 e2
  subst e1 e2
  exact hc
/-- A box with a network: its cells in every later world. -/
theorem planCells {w wy : World} {p : Net} {h : Hd} (hb : Below (w.alloc (.cells (netCells p h) 31)).heap.size (w.alloc (.cells (netCells p h) 31)) wy) : wy.cell? ⟨w.heap.size, 0, none⟩ = some (.int .i64 p.proto) ∧ wy.cell? ⟨w.heap.size, 1, none⟩ = some (.int .i64 p.cap) ∧ wy.cell? ⟨w.heap.size, 2, none⟩ = some (.int .i64 p.k) ∧ wy.cell? ⟨w.heap.size, 3, none⟩ = some (.slice h.an p.nodes.length h.cn) ∧ wy.cell? ⟨w.heap.size, 4, none⟩ = some (.slice h.al p.links.length h.cl) ∧ wy.cell? ⟨w.heap.size, 5, none⟩ = some (.slice h.ad p.dests.length h.cd) ∧ wy.cell? ⟨w.heap.size, 6, none⟩ = some (.slice h.ac p.checks.length h.cc) := by
  have hx : wy.heap[w.heap.size]? = some (.cells (netCells p h) 31 (0, 0)) := (hb.block _ (by simp)).trans (heap_alloc_new _ _)
  exact ⟨cell_of_row wy _ 0 _ _ _ hx, cell_of_row wy _ 1 _ _ _ hx, cell_of_row wy _ 2 _ _ _ hx, cell_of_row wy _ 3 _ _ _ hx, cell_of_row wy _ 4 _ _ _ hx, cell_of_row wy _ 5 _ _ _ hx, cell_of_row wy _ 6 _ _ _ hx⟩
def LinksPost (l : List Int) (b : Bool) (w : World) (e : Ending) (w' : World) : Prop := ∃ A c, e = .returned (.tuple #[.slice A l.length c, .bool b]) ∧ Own w' w.heap.size 3 1 A l.length c (ints l) ∧ Below w.heap.size w w'
attribute [local go_sem ↓] Go.wp_at_zero Go.wp_at_succ
set_option maxRecDepth 100000 in
set_option maxHeartbeats 4000000 in
theorem slinks_any (p : Net) (h : Hd) (f : Int) (q : List Nat) (A : Option Addr) (c : Nat) (w : World) (hp : NetR w w.heap.size p h) (hg : Good p) (hr : Rd w w.heap.size 1 A q.length (nats q)) (hc : q.length ≤ c) (hcm : c ≤ maxLen) (h12 : q.length ≤ 12) (h1 : 1 ≤ q.length) (hnd : q.Nodup) (hlt : ∀ x ∈ q, x < p.nodes.length)
    (hbt : ∀ i u v, q[i]? = some u → q[i + 1]? = some v → 0 ≤ betI p.links f u v) :
    Calls Tryz.prog 59 #[netV p h, .int .i64 f, .slice A q.length c] w (LinksPost (betsL p.links f q) true w) := by
  obtain ⟨i0, hi0, hz0, hs0, hb0⟩ := info_parts Tryz.info_int
  have HG := Lib.hid hg
  have hl16 := hg.l16
  have hba := (Below.refl w.heap.size w).alloc (Nat.le_refl _) (.cells (netCells p h) 31)
  have B0 := Lib.hid hba
  have PC := Lib.hid (fun (wy : World) (hb : Below (w.alloc (.cells (netCells p h) 31)).heap.size (w.alloc (.cells (netCells p h) 31)) wy) => planCells (p := p) (h := h) hb)
  have NP := Lib.hid (fun (wy : World) (hb : Below (w.alloc (.cells (netCells p h) 31)).heap.size (w.alloc (.cells (netCells p h) 31)) wy) => hp.call (since_trans hba hb))
  have RQ := Lib.hid (fun (wy : World) (hb : Below (w.alloc (.cells (netCells p h) 31)).heap.size (w.alloc (.cells (netCells p h) 31)) wy) => ((hr.below hba (Nat.le_refl _)).more hba.size).below hb (Nat.le_refl _))
  have HND := Lib.hid hnd
  have HLT := Lib.hid hlt
  have HBT := Lib.hid hbt
  have HBL := Lib.hid (bets_len p.links f q)
  obtain ⟨bb, oo, rfl, -, -⟩ := hr.2 (by omega)
  unfold netCells at PC NP RQ B0
  clear hba hp hg hr hnd hlt hbt hcm
  unfold netV netVal
  go_enter Tryz.func59, Tryz.ntmps59
  go_upto_region 1 with fail
  generalize (w.alloc (.cells #[.int .i64 p.proto, .int .i64 p.cap, .int .i64 p.k, .slice h.an p.nodes.length h.cn, .slice h.al p.links.length h.cl, .slice h.ad p.dests.length h.cd, .slice h.ac p.checks.length h.cc] 31)) = w1 at *
  go_wp2_with fail
  go_loopw [6, 13] (fun so si wx => ∃ (i : Nat) (A2 : Option Addr) (c2 : Nat), i ≤ q.length ∧ si = .int .i64 i ∧ so = .slice A2 (i - 1) c2 ∧ Own wx w1.heap.size 3 1 A2 (i - 1) c2 (ints ((betsL p.links f q).take (i - 1))) ∧ Below w1.heap.size w1 wx) (fun _ si _ => q.length - (intOf si).toNat)
  case atStart => exact ⟨0, none, 0, by omega, rfl, rfl, by simpa [ints] using Own.nil _ _ _ _, Below.refl _ _⟩
  case round =>
    obtain ⟨i, A2, c2, hi, rfl, rfl, hO, hB⟩ := hrel
    have OX := Lib.hid hO
    have BX := Lib.hid hB
    clear hO hB
    by_cases hlt : i < q.length
    · obtain ⟨n, hn⟩ : ∃ n, q[i]? = some n := ⟨_, List.getElem?_eq_getElem hlt⟩
      have hlt' : (i : Int) < (q.length : Int) := by omega
      have hi0' : (0 : Int) ≤ (i : Int) := by omega
      have hic : (i : Int) ≤ (c : Int) := by omega
      have hicN : i ≤ c := by omega
      have hcell := (RQ.out _ BX.out).at1 (nats_at hn)
      obtain ⟨g0, g1, g2, g3, g4, g5, g6⟩ := PC.out _ BX.out
      have HNV := Lib.hid (HLT.out n (List.mem_of_getElem? hn))
      have HNM : Hid (n ∉ q.take i) := Lib.hid (by
        intro hm
        obtain ⟨j, hj, e⟩ := List.mem_iff_getElem.1 hm
        rw [List.length_take] at hj
        rw [List.getElem_take] at e
        have h2 := (List.getElem?_inj (i := j) (j := i) (by omega) HND.out).1 (by rw [hn, ← e]; exact List.getElem?_eq_getElem _)
        omega)
      have HN := Lib.hid hn
      clear hn
      go_wp2_with fail
      refine (snode_in (NP.out _ BX.out) HG.out HNV.out).mono ?_
      rintro e w2 ⟨rfl, hb2⟩
      have B2 := Lib.hid (since_trans BX.out hb2)
      have O2 := Lib.hid (OX.out.call hb2)
      have CN := Lib.hid (show Calls Tryz.prog 46 #[.slice (some ⟨bb, oo, none⟩) i c, .int .i64 (n : Int)] w2 fun e w' => e = .returned (.bool false) ∧ w' = w2 from by
        have h1 : Rd w2 w1.heap.size 1 (some ⟨bb, oo, none⟩) i (ints ((q.take i).map fun (x : Nat) => (x : Int))) := by
          have h0 := RQ.out _ B2.out
          refine ⟨by simp [ints]; omega, fun _ => ?_⟩
          obtain ⟨b, o, e, hb, hcc⟩ := h0.2 (by omega)
          refine ⟨b, o, e, hb, fun j u hu => hcc j u ?_⟩
          have hj : j < i := by have := (List.getElem?_eq_some_iff.1 hu).1; simp [ints] at this; omega
          simp only [ints, List.getElem?_map, List.getElem?_take_of_lt hj] at hu
          simpa [nats] using hu
        have hl : ((q.take i).map fun (x : Nat) => (x : Int)).length = i := by simp; omega
        have h2 := containsI_any ((q.take i).map fun (x : Nat) => (x : Int)) n (some ⟨bb, oo, none⟩) c _ w2 (by rw [hl]; exact h1) (by omega)
        rw [hl] at h2
        exact h2.mono fun e w' ⟨e1, e2⟩ => ⟨by rw [e1, mem_cast, decide_eq_false HNM.out], e2.symm⟩)
      clear hcell hb2 g0 g1 g2 g3 g4 g5 g6
      go_wp2_with fail
      refine CN.out.mono ?_
      rintro e w3 ⟨rfl, rfl⟩
      obtain ⟨g0, g1, g2, g3, g4, g5, g6⟩ := PC.out _ B2.out
      by_cases hiz : i = 0
      · subst hiz
        clear g0 g1 g2 g3 g4 g5 g6 CN
        go_wp2_with fail
        go_roundw
        case rel => exact ⟨1, A2, c2, by omega, by go_num, rfl, O2.out, B2.out⟩
        case measure => simp [intOf]; omega
      · obtain ⟨m, rfl⟩ : ∃ m, i = m + 1 := ⟨i - 1, by omega⟩
        have hz : (((m + 1 : Nat) : Int) == 0) = false := by simp; omega
        clear hiz CN
        go_upto_region 7 with fail
        clear g0 g1 g2 g3 g4 g5 g6
        obtain ⟨um, hum⟩ : ∃ um, q[m]? = some um := ⟨_, List.getElem?_eq_getElem (by omega)⟩
        have hk0 : Below w1.heap.size w1 w3.drew := since_trans B2.out (below_drew (Below.refl _ _))
        have HC := Lib.hid (fun (wy : World) (hb : Below w1.heap.size w1 wy) => (show (wy.cell? ⟨w.heap.size, 0, none⟩ = some (.int .i64 p.proto) ∧ wy.cell? ⟨w.heap.size, 1, none⟩ = some (.int .i64 p.cap) ∧ wy.cell? ⟨w.heap.size, 2, none⟩ = some (.int .i64 p.k) ∧ wy.cell? ⟨w.heap.size, 3, none⟩ = some (.slice h.an p.nodes.length h.cn) ∧ wy.cell? ⟨w.heap.size, 4, none⟩ = some (.slice h.al p.links.length h.cl) ∧ wy.cell? ⟨w.heap.size, 5, none⟩ = some (.slice h.ad p.dests.length h.cd) ∧ wy.cell? ⟨w.heap.size, 6, none⟩ = some (.slice h.ac p.checks.length h.cc)) ∧ wy.cell? ⟨bb, oo + m, none⟩ = some (.int .i64 (um : Int)) from ⟨PC.out _ hb, (RQ.out _ hb).at1 (nats_at hum)⟩))
        have HBV := Lib.hid (HBT.out m um n hum HN.out)
        have HBA := Lib.hid (bets_at p.links f q m um n hum HN.out)
        have BT := Lib.hid (fun (wy : World) (hb : Below w1.heap.size w1 wy) => (show Calls Tryz.prog 99 #[.agg #[.int .i64 p.proto, .int .i64 p.cap, .int .i64 p.k, .slice h.an p.nodes.length h.cn, .slice h.al p.links.length h.cl, .slice h.ad p.dests.length h.cd, .slice h.ac p.checks.length h.cc], .int .i64 f, .int .i64 (um : Int), .int .i64 (n : Int)] wy fun e w' => e = .returned (.int .i64 (betI p.links f um n)) ∧ Below w1.heap.size w1 w' ∧ Below wy.heap.size wy w' from
          (between_any p h f um n wy (NP.out _ hb) (by omega)).mono fun e w' ⟨e1, e2⟩ => ⟨e1, since_trans hb e2, e2⟩))
        generalize betI p.links f um n = kv at *
        clear hum
        have hm0 : (0 : Int) ≤ (m : Int) := by omega
        have hml : (m : Int) < (q.length : Int) := by omega
        have hmw : IntKind.i64.wrap (m : Int) = m := IntWalk.i64_in _ (by omega)
        have hmw2 : IntKind.i64.wrap ((m : Int) + 1 - 1) = m := by rw [show (m : Int) + 1 - 1 = m by omega]; exact hmw
        refine wp_region_held_drew (S := (fun wy => (wy.cell? ⟨w.heap.size, 0, none⟩ = some (.int .i64 p.proto) ∧ wy.cell? ⟨w.heap.size, 1, none⟩ = some (.int .i64 p.cap) ∧ wy.cell? ⟨w.heap.size, 2, none⟩ = some (.int .i64 p.k) ∧ wy.cell? ⟨w.heap.size, 3, none⟩ = some (.slice h.an p.nodes.length h.cn) ∧ wy.cell? ⟨w.heap.size, 4, none⟩ = some (.slice h.al p.links.length h.cl) ∧ wy.cell? ⟨w.heap.size, 5, none⟩ = some (.slice h.ad p.dests.length h.cd) ∧ wy.cell? ⟨w.heap.size, 6, none⟩ = some (.slice h.ac p.checks.length h.cc)) ∧ wy.cell? ⟨bb, oo + m, none⟩ = some (.int .i64 (um : Int)))) (by kernel_rfl) (HC.out _ hk0) (fun hHeld0 => ?_)
        refine take_list (i := 0) (v := ?_) rfl (by kernel_rfl) (by kernel_rfl) (by kernel_rfl) (fun _ _ _ h => h) (Or.inl ⟨by rfl, ?_⟩) (by assumption) ?_
        rotate_left
        · (intro w hSw; (try dsimp only at hSw); go_simp; try (with_reducible rfl))
        try simp only [Act.put, List.setIfInBounds_toArray, List.set_cons_zero, List.set_cons_succ]
        refine take_list (i := 1) (v := ?_) rfl (by kernel_rfl) (by kernel_rfl) (by kernel_rfl) (fun _ _ _ h => h) (Or.inl ⟨by rfl, ?_⟩) (by assumption) ?_
        rotate_left
        · (intro w hSw; (try dsimp only at hSw); go_simp; try (with_reducible rfl))
        try simp only [Act.put, List.setIfInBounds_toArray, List.set_cons_zero, List.set_cons_succ]
        refine take_list (i := 2) (v := ?_) rfl (by kernel_rfl) (by kernel_rfl) (by kernel_rfl) (fun _ _ _ h => h) (Or.inl ⟨by rfl, ?_⟩) (by assumption) ?_
        rotate_left
        · (intro w hSw; (try dsimp only at hSw); go_simp; try (with_reducible rfl))
        try simp only [Act.put, List.setIfInBounds_toArray, List.set_cons_zero, List.set_cons_succ]
        refine take_list (i := 3) (v := ?_) rfl (by kernel_rfl) (by kernel_rfl) (by kernel_rfl) (fun _ _ _ h => h) (Or.inl ⟨by rfl, ?_⟩) (by assumption) ?_
        rotate_left
        · (intro w hSw; (try dsimp only at hSw); go_simp; try (with_reducible rfl))
        try simp only [Act.put, List.setIfInBounds_toArray, List.set_cons_zero, List.set_cons_succ]
        refine take_list (i := 4) (v := ?_) rfl (by kernel_rfl) (by kernel_rfl) (by kernel_rfl) (fun _ _ _ h => h) (Or.inl ⟨by rfl, ?_⟩) (by assumption) ?_
        rotate_left
        · (intro w hSw; (try dsimp only at hSw); go_simp; try (with_reducible rfl))
        try simp only [Act.put, List.setIfInBounds_toArray, List.set_cons_zero, List.set_cons_succ]
        refine take_list (i := 5) (v := ?_) rfl (by kernel_rfl) (by kernel_rfl) (by kernel_rfl) (fun _ _ _ h => h) (Or.inl ⟨by rfl, ?_⟩) (by assumption) ?_
        rotate_left
        · (intro w hSw; (try dsimp only at hSw); go_simp; try (with_reducible rfl))
        try simp only [Act.put, List.setIfInBounds_toArray, List.set_cons_zero, List.set_cons_succ]
        refine take_list (i := 6) (v := ?_) rfl (by kernel_rfl) (by kernel_rfl) (by kernel_rfl) (fun _ _ _ h => h) (Or.inl ⟨by rfl, ?_⟩) (by assumption) ?_
        rotate_left
        · (intro w hSw; (try dsimp only at hSw); go_simp; try (with_reducible rfl))
        try simp only [Act.put, List.setIfInBounds_toArray, List.set_cons_zero, List.set_cons_succ]
        refine take_list (i := 7) (v := ?_) rfl (by kernel_rfl) (by kernel_rfl) (by kernel_rfl) (fun _ _ _ h => h) (Or.inl ⟨by rfl, ?_⟩) (by assumption) ?_
        rotate_left
        · (intro w hSw; (try dsimp only at hSw); go_simp; try (with_reducible rfl))
        try simp only [Act.put, List.setIfInBounds_toArray, List.set_cons_zero, List.set_cons_succ]
        refine wpAnyH_ready (rs := [8]) (by kernel_rfl) (by simp) ?_
        refine cons_list rfl (fun K hK => ?_) AllReadyH.nil
        go_simp
        (go_at_call 99; refine (BT.out _ hk0).mono ?_; rintro e w5 ⟨rfl, hb5, hb5'⟩)
        refine hK.out _ _ (HC.out _ (by assumption)) (fun hHeld1 => ?_)
        clear hK K hHeld0
        try simp only [Act.put, List.setIfInBounds_toArray, List.set_cons_zero, List.set_cons_succ]
        refine take_list (i := 9) (v := ?_) rfl (by kernel_rfl) (by kernel_rfl) (by kernel_rfl) (fun _ _ _ h => h) (Or.inl ⟨by rfl, ?_⟩) (by assumption) ?_
        rotate_left
        · (intro w hSw; (try dsimp only at hSw); go_simp; try (with_reducible rfl))
        try simp only [Act.put, List.setIfInBounds_toArray, List.set_cons_zero, List.set_cons_succ]
        refine wpAnyH_done (by kernel_rfl) ?_ _
        clear hHeld1
        have O5 : Hid (Own w5 w1.heap.size 3 1 A2 m c2 (ints ((betsL p.links f q).take m))) := Lib.hid ((O2.out.drew).call hb5')
        have B5 := Lib.hid hb5
        have hsz5 := hb5.size
        have HKV := Lib.hid HBV.out
        have hkv := HBV.out
        clear hb5 hb5' hk0 hm0 hml hmw hmw2
        go_wp2_with ((at_builtin; refine wpList_app _ rfl _ _ 22 rfl w1.heap.size 3 i0 (.int .i64 0) 1 8 Tryz.underlying22 hi0 hz0 hs0 hb0 rfl (by decide) _ _ _ (ints ((betsL p.links f q).take m)) rfl (by exact O5.out.alloc _) _ 1 _ [.int .i64 kv] rfl (Rd.new (by simp) rfl) (by intro u hu; simp at hu; subst hu; rfl) (by unfold maxLen; omega) (by omega) (by simp; omega) ?_; intro A2 c2 w2 hown2 hgrow2 hblk2 _; (have O6 := Lib.hid hown2; have B6 := Lib.hid ((B5.out.alloc (by omega) _).grown hgrow2 (by simp; omega) (fun g hg => O5.out.from_ g hg)); clear hown2 hgrow2 hblk2)))
        go_roundw
        case rel => exact ⟨m + 1 + 1, A2, c2, by omega, by go_num, rfl, by rw [show m + 1 + 1 - 1 = m + 1 from rfl, List.take_add_one, HBA.out]; simpa [ints] using O6.out, B6.out⟩
        case measure => simp [intOf]; omega
    · have hiq : i = q.length := by omega
      have hlt' : (q.length : Int) ≤ (i : Int) := by omega
      have hq0 : (0 : Int) < (q.length : Int) := by omega
      subst hiq
      have HF : Hid (LinksPost (betsL p.links f q) true w (.returned (.tuple #[.slice A2 (q.length - 1) c2, .bool true])) wr) := Lib.hid (by
        have h1 := OX.out
        rw [List.take_of_length_le (by rw [HBL.out]; exact Nat.le_refl _)] at h1
        exact ⟨A2, c2, by rw [HBL.out], by rw [HBL.out]; exact h1.more B0.out.size, since_trans B0.out BX.out⟩)
      have hq1 : 0 < q.length := by omega
      clear hlt
      go_wp2
      exact bodyPost_ret (v := .tuple #[.slice A2 (q.length - 1) c2, .bool true]) (by simp [results, Tryz.results59, go_sem, hq1]) rfl HF.out
end
end Go.Proofs.YtlnnmjomdblciaaGreat

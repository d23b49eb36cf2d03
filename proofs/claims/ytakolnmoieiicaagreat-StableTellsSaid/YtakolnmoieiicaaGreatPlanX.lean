/- The walks of package plan, continued: links, by a map of pairs. -/
import Derived.Test.YtakolnmoieiicaaGreatPlanW
import Derived.Test.YtakolnmoieiicaaGreatMaps
namespace Go.Proofs.YtakolnmoieiicaaGreat
set_option linter.unusedSimpArgs false
set_option linter.unusedVariables false
open Go.RowKit
open Go.Maps (Keyed)

theorem Tryz.laidOut : laidOutB Tryz.prog = true := by kernel_rfl
theorem Tryz.rowPair : (91 : TypeId) < Tryz.prog.types.size := of_decide_eq_true (by kernel_rfl)
set_option maxRecDepth 100000 in
theorem Tryz.widePair : (match Tryz.prog.underlying 91 with | some (.array _ _) | some (.struct _) => true | _ => false) = true := by kernel_rfl
set_option maxRecDepth 100000 in
theorem Tryz.lawPair : Keyed Tryz.prog 91 := Keyed.of_law (deep_law_laid Tryz.laidOut (m := 2) (by omega) Tryz.rowPair (by kernel_rfl) Tryz.widePair)
theorem Tryz.cellsPair : Tryz.prog.cellsOf 91 = 2 := by kernel_rfl
theorem Tryz.cellsInt : Tryz.prog.cellsOf 3 = 1 := by kernel_rfl
theorem Tryz.keyTypePair : Tryz.prog.keyType 91 = true := by kernel_rfl
theorem Tryz.typesMany : ∃ d, Tryz.prog.types.size = d + 1 := ⟨_, (by kernel_rfl : Tryz.prog.types.size = (Tryz.prog.types.size - 1) + 1)⟩
def pairV (x : Int × Int) : Value := .agg #[.int .i64 x.1, .int .i64 x.2]
theorem litsPair (d : Nat) (a b : Int) (ha : (Lit.int .i64 a).wf = true) (hb : (Lit.int .i64 b).wf = true) : Tryz.prog.keyLits (d + 2) 91 [.int .i64 a, .int .i64 b] = some [.int .i64 a, .int .i64 b] := by
  simp only [Program.keyLits, Tryz.underlying91, Tryz.underlying3, Tryz.cellsInt, Tryz.cellsPair]
  simp [List.range, List.range.loop, ha, hb]
theorem keyPair (x : Int × Int) (ha : (Lit.int .i64 x.1).wf = true) (hb : (Lit.int .i64 x.2).wf = true) : ∃ l, keyOf Tryz.prog 91 (pairV x) = some l := by
  obtain ⟨d, hd⟩ := Tryz.typesMany
  have h := litsPair d x.1 x.2 ha hb
  unfold keyOf pairV
  simp only [Tryz.underlying91, Tryz.keyTypePair, Bool.true_and]
  rw [if_pos (by simp [Value.formed, Tryz.underlying91, Tryz.cellsPair])]
  exact ⟨_, by simp only [Value.cells]; rw [hd, h]; rfl⟩
theorem pairV_inj (a b : Int × Int) (h : pairV a = pairV b) : a = b := by
  unfold pairV at h
  injection h with h
  simp at h
  exact Prod.ext h.1 h.2

def lkB (n : Nat) (x : Lk) : Bool := placeB x.a x.b && placeB x.b n && withinB x.cost 1 15
def pairsOf (L : List Lk) : List (Int × Int) := L.map fun x => (x.a, x.b)
def linksB (p : Net) : Bool := p.links.all (lkB p.nodes.length) && (decide (p.links.length ≤ 16) && decide ((pairsOf p.links).Nodup))

/-- What the walk keeps: the network's copy, the map of pairs, and what was there. -/
structure LinksW (w wr : World) (cs : Array Value) (l : List (Int × Int)) : Prop where
  below : Below w.heap.size w wr
  size : w.heap.size + 2 ≤ wr.heap.size
  plan : wr.heap[w.heap.size]? = some (.cells cs 30 (0, 0))
  map : MapAt wr Tryz.prog (w.heap.size + 1) 91 ((once l).map fun x => (pairV x, .agg #[]))
theorem LinksW.begin (w : World) (cs : Array Value) : LinksW w ((w.alloc (.cells cs 30)).alloc (.map #[] 0)) cs [] where
  below := ((Below.refl _ _).alloc (Nat.le_refl _) _).alloc (by simp) _
  size := by simp
  plan := (Below.heap_alloc _ _ _ (by simp)).trans (heap_alloc_new _ _)
  map := by
    have := MapAt.new (w.alloc (.cells cs 30)) Tryz.prog 91
    simpa [once, onceFrom] using this
theorem LinksW.at_ {w wr : World} {cs : Array Value} {l : List (Int × Int)} (h : LinksW w wr cs l) (i : Nat) : wr.cell? ⟨w.heap.size, i, none⟩ = cs[i]? := cell_of_row wr _ i _ _ _ h.plan
theorem LinksW.alloc {w wr : World} {cs : Array Value} {l : List (Int × Int)} (h : LinksW w wr cs l) (o : Obj) : LinksW w (wr.alloc o) cs l where
  below := h.below.alloc (by have := h.size; omega) o
  size := by have := h.size; simp; omega
  plan := (Below.heap_alloc _ _ _ (by have := h.size; omega)).trans h.plan
  map := h.map.alloc o
theorem LinksW.put {w wr w' : World} {cs : Array Value} {l : List (Int × Int)} {x : Int × Int} {m' : List (Value × Value)} (h : LinksW w wr cs l) (hput : Put ((once l).map fun x => (pairV x, Value.agg #[])) (pairV x) (.agg #[]) m')
    (hm : MapAt w' Tryz.prog (w.heap.size + 1) 91 m') (hg : wr.grownBy w' (some (w.heap.size + 1))) : LinksW w w' cs (l ++ [x]) where
  below := h.below.grown hg (by have := h.size; omega) (by intro k hk; injection hk with hk; omega)
  size := Nat.le_trans h.size hg.size
  plan := (hg.block _ (by have := h.size; omega) (by simp)).trans h.plan
  map := by rw [Put.keys pairV_inj hput] at hm; exact hm

set_option maxRecDepth 100000 in
set_option maxHeartbeats 2000000 in
theorem links_any (p : Net) (h : Hd) (w : World) (hp : NetR w w.heap.size p h) (hs : Small p) : Calls Tryz.prog 36 #[netV p h] w fun e w' => e = .returned (.bool (linksB p)) ∧ Below w.heap.size w w' := by
  obtain ⟨an, cn, al, cl, ad, cd, ac, cc, dv⟩ := h
  have hl := hs.links
  have hn := hs.nodes
  have hR := hp.links
  clear hp hs
  unfold netV netVal
  have hmm := @run_makeMap Tryz.prog
  go_enter Tryz.func36, Tryz.ntmps36
  go_wp2_with fail
  go_loopw [10] (fun i wr => ∃ k : Nat, k ≤ p.links.length ∧ i = .int .i64 k ∧ (p.links.take k).all (lkB p.nodes.length) = true ∧ LinksW w wr #[.int .i64 p.proto, .int .i64 p.cap, .int .i64 p.k, .slice an p.nodes.length cn, .slice al p.links.length cl, .slice ad p.dests.length cd, .slice ac p.checks.length cc] (pairsOf (p.links.take k)))
    (fun i _ => p.links.length - (intOf i).toNat)
  case atStart => exact ⟨0, Nat.zero_le _, rfl, by simp, LinksW.begin _ _⟩
  case round =>
    obtain ⟨k, hk, rfl, hall, hL⟩ := hrel
    have HA := Lib.hid hall
    clear hall
    have hsz := hL.size
    have hszlt : w.heap.size < wr.heap.size := by omega
    have hp3 := hL.at_ 3
    have hp4 := hL.at_ 4
    simp at hp3 hp4
    by_cases hlt : k < p.links.length
    · obtain ⟨x, hx⟩ : ∃ x, p.links[k]? = some x := ⟨_, List.getElem?_eq_getElem hlt⟩
      have hts : p.links.take (k + 1) = p.links.take k ++ [x] := by
        rw [List.take_add_one, hx]; rfl
      obtain ⟨b, o, rfl, hb, hc0, hc1, hc2⟩ := hR.link hx
      rw [← hL.below.cell hb] at hc0 hc1 hc2
      have HX := Lib.hid hx
      have HT := Lib.hid hts
      clear hx hts hR
      by_cases hb' : lkB p.nodes.length x = true
      · have hbb := hb'
        simp only [lkB, Bool.and_eq_true] at hbb
        obtain ⟨⟨hb1, hb2⟩, hb3⟩ := hbb
        have hq1 := hb1
        have hq2 := hb2
        simp only [placeB, decide_eq_true_eq] at hq1 hq2
        obtain ⟨kl, hkl⟩ := keyPair (x.a, x.b) (WalkArith.wf_i64 (by simp; omega)) (WalkArith.wf_i64 (by simp; omega))
        have HK := Lib.hid hkl
        have HB := Lib.hid hb'
        clear hkl hb' hq1 hq2
        have hL1 := hL.alloc (.cells #[.int .i64 x.a, .int .i64 x.b, .int .i64 x.cost] 58)
        go_wp2_with (first | (go_at_call 57; refine (place_any _ _ _).mono ?_; rintro e w1 ⟨rfl, rfl⟩) | (go_at_call 34; refine (within_any _ _ _ _).mono ?_; rintro e w1 ⟨rfl, rfl⟩) | (at_mapUpdate; go_loud (refine wpList_mapput rfl _ _ _ _ rfl _ Tryz.lawPair Tryz.underlying89 rfl hL1.map (pairV (x.a, x.b)) (.agg #[]) kl rfl rfl HK.out ?_); intro w2 m2 hput2 hm2 hg2))
        have hL2 := hL1.put (x := (x.a, x.b)) hput2 hm2 hg2
        go_roundw
        case rel => exact ⟨k + 1, by omega, by go_num, by rw [HT.out, List.all_append, HA.out]; simp [HB.out], by rw [HT.out]; simpa [pairsOf] using hL2⟩
        case measure => simp [intOf]; omega
      · have hb' : lkB p.nodes.length x = false := by simpa using hb'
        have HF := Lib.hid (show linksB p = false from by
          unfold linksB
          rw [List.all_eq_false.2 ⟨x, List.mem_of_getElem? HX.out, by simp [hb']⟩]
          rfl)
        have hBB : Below w.heap.size w (wr.alloc (.cells #[.int .i64 x.a, .int .i64 x.b, .int .i64 x.cost] 58)) := hL.below.alloc (by omega) _
        have HBB := Lib.hid hBB
        clear hBB
        by_cases hb1 : placeB x.a x.b = true
        · by_cases hb2 : placeB x.b p.nodes.length = true
          · have hb3 : withinB x.cost 1 15 = false := by simpa [lkB, hb1, hb2] using hb'
            clear hb'
            go_wp2_with (first | (go_at_call 57; refine (place_any _ _ _).mono ?_; rintro e w1 ⟨rfl, rfl⟩) | (go_at_call 34; refine (within_any _ _ _ _).mono ?_; rintro e w1 ⟨rfl, rfl⟩))
            go_ret
            exact ⟨ret_bool (by rw [HF.out]), HBB.out⟩
          · have hb2 : placeB x.b p.nodes.length = false := by simpa using hb2
            clear hb'
            go_wp2_with (first | (go_at_call 57; refine (place_any _ _ _).mono ?_; rintro e w1 ⟨rfl, rfl⟩) | (go_at_call 34; refine (within_any _ _ _ _).mono ?_; rintro e w1 ⟨rfl, rfl⟩))
            go_ret
            exact ⟨ret_bool (by rw [HF.out]), HBB.out⟩
        · have hb1 : placeB x.a x.b = false := by simpa using hb1
          clear hb'
          go_wp2_with (first | (go_at_call 57; refine (place_any _ _ _).mono ?_; rintro e w1 ⟨rfl, rfl⟩) | (go_at_call 34; refine (within_any _ _ _ _).mono ?_; rintro e w1 ⟨rfl, rfl⟩))
          go_ret
          exact ⟨ret_bool (by rw [HF.out]), HBB.out⟩
    · have hkl : k = p.links.length := by omega
      have hA := HA.out
      rw [List.take_of_length_le (by omega)] at hA hL
      have HN := Lib.hid (show linksB p = (decide (p.links.length ≤ 16) && decide ((pairsOf p.links).Nodup)) from by unfold linksB; rw [hA]; rfl)
      have hlen := once_len (pairsOf p.links)
      have hpl : (pairsOf p.links).length = p.links.length := by simp [pairsOf]
      rw [hpl] at hlen
      have hlr := hL.map.len Tryz.underlying89 3
      have hnm : ((((once (pairsOf p.links)).map fun x => (pairV x, Value.agg #[])).length : Int) == (p.links.length : Int)) = decide ((pairsOf p.links).Nodup) := by
        rw [Bool.eq_iff_iff]
        simp only [List.length_map, beq_iff_eq, decide_eq_true_eq]
        rw [← hlen.2]
        omega
      generalize ((once (pairsOf p.links)).map fun x => (pairV x, Value.agg #[])).length = nm at hlr hnm
      generalize decide ((pairsOf p.links).Nodup) = nb at HN hnm
      have HBB := Lib.hid hL.below
      clear hA hlen hpl hkl hL hR
      by_cases h16 : p.links.length ≤ 16
      · have hd : decide (p.links.length ≤ 16) = true := by simp [h16]
        rw [hd] at HN
        have h16' : (p.links.length : Int) ≤ 16 := by omega
        clear h16 hd
        go_wp2
        go_ret
        exact ⟨ret_bool (by rw [HN.out]; rfl), HBB.out⟩
      · have hd : decide (p.links.length ≤ 16) = false := by simp [h16]
        rw [hd] at HN
        have h16' : ¬ (p.links.length : Int) ≤ 16 := by omega
        clear h16 hd
        go_wp2
        go_ret
        exact ⟨ret_bool (by rw [HN.out]; rfl), HBB.out⟩
end Go.Proofs.YtakolnmoieiicaaGreat

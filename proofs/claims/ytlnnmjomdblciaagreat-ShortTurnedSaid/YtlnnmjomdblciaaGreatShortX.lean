/- The walk of short.Apart: a map of numbers. -/
import Derived.Test.YtlnnmjomdblciaaGreatShortB
import Derived.Test.YtlnnmjomdblciaaGreatPlanX
import Derived.Test.YtlnnmjomdblciaaGreatRight
namespace Go.Proofs.YtlnnmjomdblciaaGreat
set_option linter.unusedSimpArgs false
set_option linter.unusedVariables false
open Go.RowKit
open Go.Maps (Keyed)

theorem Tryz.keyInt : Keyed Tryz.prog 3 := Go.Maps.int_keyed Tryz.underlying3
def apartB (p : Net) : Bool := decide ((p.nodes.map (·.as_)).Nodup)
theorem intV_inj (a b : Int) (h : Value.int .i64 a = Value.int .i64 b) : a = b := by injection h
/-- What the walk keeps: the network's copy, the map of numbers, and what was there. -/
structure ApW (w wr : World) (cs : Array Value) (l : List Int) : Prop where
  below : Below w.heap.size w wr
  size : w.heap.size + 2 ≤ wr.heap.size
  plan : wr.heap[w.heap.size]? = some (.cells cs 31 (0, 0))
  map : MapAt wr Tryz.prog (w.heap.size + 1) 3 ((once l).map fun x => (Value.int .i64 x, .agg #[]))
theorem ApW.begin (w : World) (cs : Array Value) : ApW w ((w.alloc (.cells cs 31)).alloc (.map #[] 0)) cs [] where
  below := ((Below.refl _ _).alloc (Nat.le_refl _) _).alloc (by simp) _
  size := by simp
  plan := (Below.heap_alloc _ _ _ (by simp)).trans (heap_alloc_new _ _)
  map := by
    have := MapAt.new (w.alloc (.cells cs 31)) Tryz.prog 3
    simpa [once, onceFrom] using this
theorem ApW.at_ {w wr : World} {cs : Array Value} {l : List Int} (h : ApW w wr cs l) (i : Nat) : wr.cell? ⟨w.heap.size, i, none⟩ = cs[i]? := cell_of_row wr _ i _ _ _ h.plan
theorem ApW.alloc {w wr : World} {cs : Array Value} {l : List Int} (h : ApW w wr cs l) (o : Obj) : ApW w (wr.alloc o) cs l where
  below := h.below.alloc (by have := h.size; omega) o
  size := by have := h.size; simp; omega
  plan := (Below.heap_alloc _ _ _ (by have := h.size; omega)).trans h.plan
  map := h.map.alloc o
theorem ApW.call {w wr w' : World} {cs : Array Value} {l : List Int} (h : ApW w wr cs l) (hb : Below wr.heap.size wr w') : ApW w w' cs l where
  below := since_trans h.below hb
  size := by have := h.size; have := hb.size; omega
  plan := (hb.block _ (lt_heap h.plan)).trans h.plan
  map := h.map.call hb
theorem ApW.put {w wr w' : World} {cs : Array Value} {l : List Int} {x : Int} {m' : List (Value × Value)} (h : ApW w wr cs l) (hput : Put ((once l).map fun x => (Value.int .i64 x, Value.agg #[])) (Value.int .i64 x) (.agg #[]) m')
    (hm : MapAt w' Tryz.prog (w.heap.size + 1) 3 m') (hg : wr.grownBy w' (some (w.heap.size + 1))) : ApW w w' cs (l ++ [x]) where
  below := h.below.grown hg (by have := h.size; omega) (by intro k hk; injection hk with hk; omega)
  size := Nat.le_trans h.size hg.size
  plan := (hg.block _ (by have := h.size; omega) (by simp)).trans h.plan
  map := by rw [Put.keys intV_inj hput] at hm; exact hm

set_option maxRecDepth 100000 in
set_option maxHeartbeats 2000000 in
theorem apart_any (p : Net) (h : Hd) (w : World) (hp : NetR w w.heap.size p h) (hg : Good p) : Calls Tryz.prog 40 #[netV p h] w fun e w' => e = .returned (.bool (apartB p)) ∧ Below w.heap.size w w' := by
  have HP := Lib.hid hp
  have HG := Lib.hid hg
  have HAS : Hid (∀ x ∈ p.nodes, 1 ≤ x.as_ ∧ x.as_ ≤ 65535) := Lib.hid (by
    intro x hx
    have := hg.netG.as_ x hx
    exact this)
  have hn := hg.small.nodes
  have hR := hp.nodes
  clear hp hg
  obtain ⟨an, cn, al, cl, ad, cd, ac, cc, dv⟩ := h
  unfold netV netVal
  have hmm := @run_makeMap Tryz.prog
  go_enter Tryz.func40, Tryz.ntmps40
  go_wp2_with fail
  go_loopw [10] (fun i wr => ∃ k : Nat, k ≤ p.nodes.length ∧ i = .int .i64 k ∧ ApW w wr #[.int .i64 p.proto, .int .i64 p.cap, .int .i64 p.k, .slice an p.nodes.length cn, .slice al p.links.length cl, .slice ad p.dests.length cd, .slice ac p.checks.length cc] ((p.nodes.map (·.as_)).take k))
    (fun i _ => p.nodes.length - (intOf i).toNat)
  case atStart => exact ⟨0, Nat.zero_le _, rfl, ApW.begin _ _⟩
  case round =>
    obtain ⟨k, hk, rfl, hL⟩ := hrel
    have hsz := hL.size
    have hszlt : w.heap.size < wr.heap.size := by omega
    have hp3 := hL.at_ 3
    simp at hp3
    by_cases hlt : k < p.nodes.length
    · obtain ⟨x, hx⟩ : ∃ x, p.nodes[k]? = some x := ⟨_, List.getElem?_eq_getElem hlt⟩
      have hts : (p.nodes.map (·.as_)).take (k + 1) = (p.nodes.map (·.as_)).take k ++ [x.as_] := by
        rw [List.take_add_one, List.getElem?_map, hx]; rfl
      obtain ⟨b, o, rfl, hb, hc0, hc1⟩ := hR.node hx
      rw [← hL.below.cell hb] at hc0 hc1
      have hxa := HAS.out x (List.mem_of_getElem? hx)
      have HK : Hid (keyOf Tryz.prog 3 (.int .i64 x.as_) = some (.int .i64 x.as_)) := Lib.hid (Go.Maps.keyOf_int_mk Tryz.underlying3 (WalkArith.wf_i64 (by omega)))
      have HT := Lib.hid hts
      have hL1 := hL.alloc (.cells #[.string x.name, .int .i64 x.as_] 63)
      clear hx hts hR hxa
      go_wp2_with (at_mapUpdate; go_loud (refine wpList_mapput rfl _ _ _ _ rfl _ Tryz.keyInt Tryz.underlying105 rfl hL1.map (.int .i64 x.as_) (.agg #[]) _ rfl rfl HK.out ?_); intro w2 m2 hput2 hm2 hg2)
      have hL2 := hL1.put (x := x.as_) hput2 hm2 hg2
      go_roundw
      case rel => exact ⟨k + 1, by omega, by go_num, by rw [HT.out]; exact hL2⟩
      case measure => simp [intOf]; omega
    · have hkl : k = p.nodes.length := by omega
      subst hkl
      rw [List.take_of_length_le (by simp)] at hL
      have hlen := once_len (p.nodes.map (·.as_))
      have hpl : (p.nodes.map (·.as_)).length = p.nodes.length := by simp
      rw [hpl] at hlen
      have hnm : ((((once (p.nodes.map (·.as_))).map fun x => (Value.int .i64 x, Value.agg #[])).length : Int) == (p.nodes.length : Int)) = apartB p := by
        rw [Bool.eq_iff_iff]
        unfold apartB
        simp only [List.length_map, beq_iff_eq, decide_eq_true_eq]
        rw [← hlen.2]
        omega
      have HR : Hid (∀ wy, Below w.heap.size w wy → Calls Tryz.prog 45 #[netV p ⟨an, cn, al, cl, ad, cd, ac, cc, dv⟩] wy fun e w' => e = .returned (.bool true) ∧ Below wy.heap.size wy w') := Lib.hid (fun wy hb => by
        have h1 := right_any p ⟨an, cn, al, cl, ad, cd, ac, cc, dv⟩ wy (HP.out.call hb) HG.out.small HG.out.names
        rw [HG.out.right] at h1
        exact h1)
      have HL := Lib.hid hL
      have hp0 := hL.at_ 0
      have hp1 := hL.at_ 1
      have hp2 := hL.at_ 2
      have hp4 := hL.at_ 4
      have hp5 := hL.at_ 5
      have hp6 := hL.at_ 6
      simp at hp0 hp1 hp2 hp4 hp5 hp6
      clear hlen hpl hL hR
      unfold netV netVal at HR
      go_wp2_with (go_at_call 45; refine (HR.out _ HL.out.below).mono ?_; rintro e w2 ⟨rfl, hb2⟩; have hL2 := HL.out.call hb2; have hlr := hL2.map.len Tryz.underlying105 3; have q3 := hL2.at_ 3; simp at q3)
      go_ret
      exact ⟨ret_bool (by rw [List.length_map] at hnm; exact hnm), hL2.below⟩
end Go.Proofs.YtlnnmjomdblciaaGreat

/- The walks of package plan, continued: names. Sorted and compacted names: what the library's two calls leave, and when nothing was there twice. plan.named, whatever the names. -/
import Derived.Test.YtakolnmoieiicaaGreatPlanW
import Derived.Test.YtakolnmoieiicaaGreatBase
import Derived.Test.YtakolnmoieiicaaGreatShelf
import Derived.Sort.OwnSorted
import Derived.Shelf.Slices.CompactS
import Derived.Shelf.Sort.Plain
import Derived.Test.YtakolnmoieiicaaGreatRegs
namespace Go.Proofs.YtakolnmoieiicaaGreat
set_option linter.unusedSimpArgs false
set_option linter.unusedVariables false
open Go.RowKit

section
theorem Tryz.info_str : (Tryz.prog.info? 9).map (fun i => (i.zero, i.size, i.bytes)) = some (some (.string ⟨#[]⟩), 1, 16) := by kernel_rfl

/-- A destination's cells, and where its origins lie. -/
theorem NetR.dest {w : World} {B : Nat} {p : Net} {h : Hd} (n : NetR w B p h) {i : Nat} {d : Ds} (hi : p.dests[i]? = some d) :
    ∃ b o a c, h.ad = some ⟨b, o, none⟩ ∧ b < B ∧ w.cell? ⟨b, o + i * 2, none⟩ = some (.string d.name) ∧ w.cell? ⟨b, o + i * 2 + 1, none⟩ = some (.slice a d.origins.length c) ∧ Rd w B 1 a d.origins.length (ints d.origins) := by
  have hlt : i < p.dests.length := (List.getElem?_eq_some_iff.1 hi).1
  have hlt' : i < h.dv.length := by rw [n.dlen]; exact hlt
  have hz : (p.dests.zip h.dv)[i]? = some (d, h.dv[i]) := by
    rw [List.getElem?_zip_eq_some]
    exact ⟨hi, List.getElem?_eq_getElem hlt'⟩
  have hR : Rd w B 2 h.ad (p.dests.zip h.dv).length ((p.dests.zip h.dv).flatMap dsCells) := by
    have := n.dests
    rwa [show p.dests.length = (p.dests.zip h.dv).length from by simp [n.dlen]] at this
  obtain ⟨b, o, e, hb, hc⟩ := hR.elem (f := dsCells) (fun _ => rfl) hz
  exact ⟨b, o, h.dv[i].1, h.dv[i].2, e, hb, hc 0 _ (by omega) rfl, hc 1 _ (by omega) rfl, n.origins _ (List.mem_of_getElem? hz)⟩

/-- What the walk keeps: the network's copy, and the names so far. -/
structure NamesW (w wr : World) (cs : Array Value) (A : Option Addr) (c : Nat) (l : List ByteArray) : Prop where
  below : Below w.heap.size w wr
  size : w.heap.size + 1 ≤ wr.heap.size
  plan : wr.heap[w.heap.size]? = some (.cells cs 30 (0, 0))
  own : Own wr (w.heap.size + 1) 9 1 A l.length c (strs l)
section
variable {w wr w' : World} {cs : Array Value} {A : Option Addr} {c : Nat} {l : List ByteArray}
theorem NamesW.begin (w : World) (cs : Array Value) : NamesW w (w.alloc (.cells cs 30)) cs none 0 [] where
  below := (Below.refl _ _).alloc (Nat.le_refl _) _
  size := by simp
  plan := heap_alloc_new _ _
  own := Own.nil _ _ _ _
theorem NamesW.at_ (h : NamesW w wr cs A c l) (i : Nat) : wr.cell? ⟨w.heap.size, i, none⟩ = cs[i]? := cell_of_row wr _ i _ _ _ h.plan
theorem NamesW.alloc (h : NamesW w wr cs A c l) (o : Obj) : NamesW w (wr.alloc o) cs A c l where
  below := h.below.alloc (by have := h.size; omega) o
  size := by have := h.size; simp; omega
  plan := (Below.heap_alloc _ _ _ (by have := h.size; omega)).trans h.plan
  own := h.own.alloc o
theorem NamesW.app {s : ByteArray} {A2 : Option Addr} {n c2 : Nat} (h : NamesW w wr cs A c l) (hn : n = l.length + 1) (ho : Own w' (w.heap.size + 1) 9 1 A2 n c2 (strs l ++ [.string s])) (hg : wr.grownBy w' (blk A)) :
    n = (l ++ [s]).length ∧ NamesW w w' cs A2 c2 (l ++ [s]) := by
  have e : n = (l ++ [s]).length := by simp [hn]
  subst e
  refine ⟨rfl, ⟨h.below.grown hg (by have := h.size; omega) (fun g hg' => by have := h.own.from_ g hg'; omega), Nat.le_trans h.size hg.size, (hg.block _ (by have := h.size; omega) (fun e => by have := h.own.from_ _ e.symm; omega)).trans h.plan, ?_⟩⟩
  simpa [strs] using ho
end

def ndNames (p : Net) : List ByteArray := p.nodes.map (·.name)
def dsNames (p : Net) : List ByteArray := p.dests.map (·.name)
def namesOf (p : Net) : List ByteArray := ndNames p ++ dsNames p
def NamesPost (p : Net) (w : World) (e : Ending) (w' : World) : Prop := ∃ A c, e = .returned (.slice A (namesOf p).length c) ∧ Own w' (w.heap.size + 1) 9 1 A (namesOf p).length c (strs (namesOf p)) ∧ Below w.heap.size w w'

set_option maxRecDepth 100000 in
set_option maxHeartbeats 2000000 in
theorem names_any (p : Net) (h : Hd) (w : World) (hp : NetR w w.heap.size p h) (hs : Small p) : Calls Tryz.prog 60 #[netV p h] w (NamesPost p w) := by
  have hn := hs.nodes
  have hd := hs.dests
  obtain ⟨is, his, hsz0, hsz1, hsz2⟩ := info_parts Tryz.info_str
  obtain ⟨an, cn, al, cl, ad, cd, ac, cc, dv⟩ := h
  have hR := hp.nodes
  have HP := Lib.hid hp
  clear hp hs
  unfold netV netVal
  go_enter Tryz.func60, Tryz.ntmps60
  go_wp2_with fail
  go_loopw [2, 10] (fun v i wr => ∃ (k : Nat) (A : Option Addr) (c : Nat), k ≤ p.nodes.length ∧ i = .int .i64 k ∧ v = .slice A ((ndNames p).take k).length c ∧
      NamesW w wr #[.int .i64 p.proto, .int .i64 p.cap, .int .i64 p.k, .slice an p.nodes.length cn, .slice al p.links.length cl, .slice ad p.dests.length cd, .slice ac p.checks.length cc] A c ((ndNames p).take k))
    (fun _ i _ => p.nodes.length - (intOf i).toNat)
  case atStart => exact ⟨0, none, 0, Nat.zero_le _, rfl, by simp, by simpa using NamesW.begin _ _⟩
  case round =>
    obtain ⟨k, A, c, hk, rfl, rfl, hN⟩ := hrel
    have hsz := hN.size
    have hszlt : w.heap.size < wr.heap.size := by omega
    have hlen : ((ndNames p).take k).length ≤ 1000 := by simp [ndNames]; omega
    by_cases hlt : k < p.nodes.length
    · obtain ⟨x, hx⟩ : ∃ x, p.nodes[k]? = some x := ⟨_, List.getElem?_eq_getElem hlt⟩
      obtain ⟨b, o, rfl, hb, hc0, hc1⟩ := hR.node hx
      rw [← hN.below.cell hb] at hc0 hc1
      have hts : (ndNames p).take (k + 1) = (ndNames p).take k ++ [x.name] := by
        rw [List.take_add_one]; simp [ndNames, hx]
      have HT := Lib.hid hts
      clear hx hts hR
      generalize (ndNames p).take k = l at *
      have hN1 := (hN.alloc (.cells #[.string x.name, .int .i64 x.as_] 55)).alloc (.cells #[.string x.name] 9)
      have HN1 := Lib.hid hN1
      clear hN1
      go_wp2_with (first | (at_builtin; refine wpList_app _ rfl _ _ 53 rfl (w.heap.size + 1) 9 is (.string ⟨#[]⟩) 1 16 Tryz.underlying53 his hsz0 hsz1 hsz2 rfl (by decide) _ _ _ (strs l) rfl (by exact HN1.out.own) _ 1 _ [.string x.name] rfl (Rd.new (by simp) rfl) (by intro u hu; simp at hu; subst hu; rfl) (by unfold maxLen; omega) (by omega) (by simp; omega) ?_; intro A2 c2 w2 hown2 hgrow2 hblk2 _))
      have R := HN1.out.app rfl hown2 hgrow2
      go_roundw
      case rel => exact ⟨k + 1, A2, c2, by omega, by go_num, by rw [HT.out, ← R.1], by rw [HT.out]; exact R.2⟩
      case measure => simp [intOf]; omega
    · have hkl : (ndNames p).take k = ndNames p := List.take_of_length_le (by simp [ndNames]; omega)
      rw [hkl] at hN hlen ⊢
      have hp5 := hN.at_ 5
      simp at hp5
      clear hkl hR
      go_wp2_with fail
      go_loopw [2, 23] (fun v i wr => ∃ (k : Nat) (A : Option Addr) (c : Nat), k ≤ p.dests.length ∧ i = .int .i64 k ∧ v = .slice A (ndNames p ++ (dsNames p).take k).length c ∧
          NamesW w wr #[.int .i64 p.proto, .int .i64 p.cap, .int .i64 p.k, .slice an p.nodes.length cn, .slice al p.links.length cl, .slice ad p.dests.length cd, .slice ac p.checks.length cc] A c (ndNames p ++ (dsNames p).take k))
        (fun _ i _ => p.dests.length - (intOf i).toNat)
      case atStart => exact ⟨0, A, c, Nat.zero_le _, rfl, by simp, by simpa using hN⟩
      case round =>
        clear hN hsz hszlt hp5
        obtain ⟨k, A, c, hk, rfl, rfl, hN⟩ := hrel
        have hsz := hN.size
        have hszlt : w.heap.size < wr.heap.size := by omega
        have hlen2 : (ndNames p ++ (dsNames p).take k).length ≤ 2000 := by simp [dsNames] at hlen ⊢; omega
        by_cases hlt : k < p.dests.length
        · obtain ⟨x, hx⟩ : ∃ x, p.dests[k]? = some x := ⟨_, List.getElem?_eq_getElem hlt⟩
          obtain ⟨b, o, a', cx, e', hb, hc0, hc1, _⟩ := HP.out.dest hx
          simp only at e'
          subst e'
          rw [← hN.below.cell hb] at hc0 hc1
          have hts : ndNames p ++ (dsNames p).take (k + 1) = (ndNames p ++ (dsNames p).take k) ++ [x.name] := by
            rw [List.take_add_one]; simp [dsNames, hx]
          have HT := Lib.hid hts
          clear hx hts
          generalize ndNames p ++ (dsNames p).take k = l at *
          have hN1 := (hN.alloc (.cells #[.string x.name, .slice a' x.origins.length cx] 60)).alloc (.cells #[.string x.name] 9)
          have HN1 := Lib.hid hN1
          clear hN1
          go_wp2_with (first | (at_builtin; refine wpList_app _ rfl _ _ 53 rfl (w.heap.size + 1) 9 is (.string ⟨#[]⟩) 1 16 Tryz.underlying53 his hsz0 hsz1 hsz2 rfl (by decide) _ _ _ (strs l) rfl (by exact HN1.out.own) _ 1 _ [.string x.name] rfl (Rd.new (by simp) rfl) (by intro u hu; simp at hu; subst hu; rfl) (by unfold maxLen; omega) (by omega) (by simp; omega) ?_; intro A2 c2 w2 hown2 hgrow2 hblk2 _))
          have R := HN1.out.app rfl hown2 hgrow2
          go_roundw
          case rel => exact ⟨k + 1, A2, c2, by omega, by go_num, by rw [HT.out, ← R.1], by rw [HT.out]; exact R.2⟩
          case measure => simp [intOf]; omega
        · have hkl : ndNames p ++ (dsNames p).take k = namesOf p := by rw [List.take_of_length_le (by simp [dsNames]; omega)]; rfl
          rw [hkl] at hN ⊢
          have HF := Lib.hid (show NamesPost p w (.returned (.slice A (namesOf p).length c)) wr from ⟨A, c, rfl, hN.own, hN.below⟩)
          clear hkl hN hlen2
          go_wp2
          go_ret
          exact HF.out
end

section
open Go.RowKit Go.Sort

theorem le_bytes_trans (a b c : List UInt8) (h : a ≤ b) (h' : b ≤ c) : a ≤ c := List.le_trans h h'
theorem le_bytes_anti (a b : List UInt8) (h : a ≤ b) (h' : b ≤ a) : a = b := List.le_antisymm h h'
theorem le_bytes_total (a b : List UInt8) : a ≤ b ∨ b ≤ a := List.le_total a b

/-! ### The two calls -/
def bytesOf (l : List ByteArray) : List (List UInt8) := l.map (·.data.toList)
theorem encs (l : List ByteArray) : (bytesOf l).map encStr = strs l := by
  simp [bytesOf, strs, encStr]
theorem bytes_inj {a b : ByteArray} (h : a.data.toList = b.data.toList) : a = b := by
  obtain ⟨⟨a⟩⟩ := a; obtain ⟨⟨b⟩⟩ := b; simp at h; rw [h]
theorem nodup_bytes (l : List ByteArray) : (bytesOf l).Nodup ↔ l.Nodup := by
  constructor
  · intro h; exact (List.pairwise_map.1 h).imp fun {a b} h e => h (by rw [e])
  · intro h; exact List.pairwise_map.2 (h.imp fun {a b} h e => h (bytes_inj e))

/-- A row of the call's own holds its texts. -/
theorem Own.holds {w : World} {B e c g off : Nat} {zs : List (List UInt8)} (h : Own w B e 1 (some ⟨g, off, none⟩) zs.length c (zs.map encStr)) (hp : 0 < c) : Holds encStr w g off zs.toArray := by
  obtain ⟨g', off', cur, e', hh, _, hx⟩ := h.2.2.2.2.2 hp
  injection e' with e'
  injection e' with e1 e2
  subst e1 e2
  intro j hj
  have hj' : j < zs.length := by simpa using hj
  refine ⟨?_, frozen_of_row w g _ cur e hh⟩
  rw [cell_of_row w g _ cur e (0, 0) hh]
  refine (hx j (encStr zs[j]) (by simp [hj'])).trans ?_
  rw [getElem!_pos _ j hj]; simp
theorem Own.putRow {w : World} {B e c g off q : Nat} {zs ys : List (List UInt8)} {os : Array Obj} (h : Own w B e 1 (some ⟨g, off, none⟩) zs.length c (zs.map encStr)) (hp : 0 < c) (hl : ys.length = zs.length) :
    Own (grow (Go.Sort.putRow encStr (Sort.ahead w q) g off ys.toArray) os) B e 1 (some ⟨g, off, none⟩) ys.length c (ys.map encStr) ∧ w.grownBy (grow (Go.Sort.putRow encStr (Sort.ahead w q) g off ys.toArray) os) (some g) := by
  obtain ⟨h1, h2, h3, h4, h5, h6⟩ := h
  obtain ⟨g', off', cur, e', hh, hs, hx⟩ := h6 hp
  injection e' with e'
  injection e' with e1 e2
  subst e1 e2
  have hg := lt_heap hh
  refine ⟨⟨by simp, by omega, h3, h4, h5, fun _ => ⟨g, off, putCells encStr off ys.toArray cur, rfl, ?_, by simp [putCells]; omega, fun j u hu => ?_⟩⟩, ⟨rfl, rfl, rfl, by simp, fun k hk hne => ?_⟩⟩
  · rw [heap_grow_old _ _ (by simpa using hg)]
    simp [Go.Sort.putRow, mapBlock, Sort.ahead, Array.getElem?_modify, hh, onCells]
  · have hj : j < ys.length := by
      have := (List.getElem?_eq_some_iff.1 hu).1
      simpa using this
    have hcs : off + j < cur.size := by omega
    rw [List.getElem?_map, List.getElem?_eq_getElem hj] at hu
    simp at hu
    subst hu
    simp [putCells, Array.getElem?_mapIdx, hcs, hj]
  · rw [heap_grow_old _ _ (by simpa using hk)]
    have : g ≠ k := fun e => hne (by rw [e])
    simp [Go.Sort.putRow, mapBlock, Sort.ahead, Array.getElem?_modify, this]

def SortPost (l : List ByteArray) (A : Option Addr) (c B : Nat) (w : World) (e : Ending) (w' : World) : Prop :=
  ∃ ts : List (List UInt8), e = .returned (.tuple #[]) ∧ ts.Perm (bytesOf l) ∧ ts.Pairwise (fun a b => a ≤ b) ∧ Own w' B 9 1 A ts.length c (ts.map encStr) ∧ w.grownBy w' (blk A)
theorem sort_any (l : List ByteArray) (A : Option Addr) (c B : Nat) (w : World) (h : Own w B 9 1 A l.length c (strs l)) (h0 : 0 < l.length) (hl : l.length ≤ 10000) :
    Calls Tryz.prog 61 #[.slice A l.length c] w (SortPost l A c B w) := by
  have hc : 0 < c := by have := h.2.1; omega
  obtain ⟨g, off, cur, rfl, hh, _⟩ := h.2.2.2.2.2 hc
  have hbl : (bytesOf l).length = l.length := by simp [bytesOf]
  have h' : Own w B 9 1 (some ⟨g, off, none⟩) (bytesOf l).length c ((bytesOf l).map encStr) := by rw [encs, hbl]; exact h
  have hs := Any.slices_Sort_string Tryz.lays190 g off c (bytesOf l) w (h'.holds hc) (lt_heap hh) (by omega)
  rw [hbl] at hs
  refine Calls.mono (P := Tryz.prog) (f := 61) hs fun e w' he => ?_
  obtain ⟨rfl, n, os, rfl⟩ := he
  have hp := h'.putRow (q := n) (os := os) (ys := (bytesOf l).mergeSort fun x y => decide (x ≤ y)) hc (by simp)
  refine ⟨_, rfl, List.mergeSort_perm _ _, ?_, hp.1, hp.2⟩
  have := List.pairwise_mergeSort (le := fun x y : List UInt8 => decide (x ≤ y)) (fun a b c h1 h2 => by simp at h1 h2 ⊢; exact le_bytes_trans _ _ _ h1 h2) (fun a b => by simp; exact le_bytes_total a b) (bytesOf l)
  exact this.imp fun {a b} h => by simpa using h

def CompactPost (ts : List (List UInt8)) (A : Option Addr) (w : World) (e : Ending) (w' : World) : Prop :=
  ∃ (n : Nat) (c : Nat), e = .returned (.slice A n c) ∧ (n = ts.length ↔ ∀ j, j + 1 < ts.length → ts[j + 1]! ≠ ts[j]!) ∧ w.grownBy w' (blk A)
theorem compact_any (ts : List (List UInt8)) (A : Option Addr) (c B : Nat) (w : World) (h : Own w B 9 1 A ts.length c (ts.map encStr)) (h0 : 0 < ts.length) (hl : ts.length ≤ 10000) :
    Calls Tryz.prog 65 #[.slice A ts.length c] w (CompactPost ts A w) := by
  have hc : 0 < c := by have := h.2.1; omega
  obtain ⟨g, off, cur, rfl, hh, _⟩ := h.2.2.2.2.2 hc
  have hs := Any.slices_Compact_string Tryz.lays194 g off c ts w (h.holds hc) (by omega) h.2.1
  refine Calls.mono (P := Tryz.prog) (f := 65) hs fun e w' he => ?_
  obtain ⟨rfl, q, rfl⟩ := he
  refine ⟨_, c, rfl, compact_len ts, ⟨rfl, rfl, rfl, by simp, fun k hk hne => ?_⟩⟩
  have : g ≠ k := fun e => hne (by rw [e]; rfl)
  simp [Go.Sort.putRow, mapBlock, Sort.ahead, Array.getElem?_modify, this]

/-! ### Are all names such, each once? -/
def ofBytes (ts : List (List UInt8)) : List ByteArray := ts.map fun b => ⟨b.toArray⟩
theorem bytes_of (ts : List (List UInt8)) : bytesOf (ofBytes ts) = ts := by
  unfold bytesOf ofBytes; rw [List.map_map]; exact List.map_id' ts
theorem of_bytes (l : List ByteArray) : ofBytes (bytesOf l) = l := by
  unfold bytesOf ofBytes; rw [List.map_map]; exact List.map_id' l
def namedB (p : Net) : Bool := !(namesOf p).any badName && decide (namesOf p).Nodup
/-- What the sort leaves, as texts. -/
theorem sorted_any (l : List ByteArray) (A : Option Addr) (c B : Nat) (w : World) (h : Own w B 9 1 A l.length c (strs l)) (h0 : 0 < l.length) (hl : l.length ≤ 10000) :
    Calls Tryz.prog 61 #[.slice A l.length c] w fun e w' => e = .returned (.tuple #[]) ∧ ∃ l' : List ByteArray, l'.Perm l ∧ (bytesOf l').Pairwise (fun a b => a ≤ b) ∧ Own w' B 9 1 A l.length c (strs l') ∧ w.grownBy w' (blk A) := by
  refine (sort_any l A c B w h h0 hl).mono ?_
  rintro e w' ⟨ts, rfl, hp, hs, ho, hg⟩
  have hlen : ts.length = l.length := by rw [hp.length_eq]; simp [bytesOf]
  refine ⟨rfl, ofBytes ts, ?_, by rw [bytes_of]; exact hs, ?_, hg⟩
  · have := hp.map (fun b : List UInt8 => (⟨b.toArray⟩ : ByteArray))
    rwa [show (bytesOf l).map (fun b : List UInt8 => (⟨b.toArray⟩ : ByteArray)) = l from of_bytes l] at this
  · rw [← encs, bytes_of, ← hlen]; exact ho
theorem compacted_any (l l' : List ByteArray) (A : Option Addr) (c B : Nat) (w : World) (hp : l'.Perm l) (hs : (bytesOf l').Pairwise (fun a b => a ≤ b)) (h : Own w B 9 1 A l.length c (strs l')) (h0 : 0 < l.length) (hl : l.length ≤ 10000) :
    Calls Tryz.prog 65 #[.slice A l.length c] w fun e w' => ∃ (n c' : Nat), e = .returned (.slice A n c') ∧ (((n : Int) == (l.length : Int)) = decide l.Nodup) ∧ w.grownBy w' (blk A) := by
  have hlen : (bytesOf l').length = l.length := by simp [bytesOf, hp.length_eq]
  have h' : Own w B 9 1 A (bytesOf l').length c ((bytesOf l').map encStr) := by rw [encs, hlen]; exact h
  have := compact_any (bytesOf l') A c B w h' (by omega) (by omega)
  rw [hlen] at this
  refine this.mono ?_
  rintro e w' ⟨n, c', rfl, hn, hg⟩
  refine ⟨n, c', rfl, ?_, hg⟩
  rw [hlen, ← hlen, ← sorted_nodup le_bytes_trans le_bytes_anti _ hs, nodup_bytes, hp.nodup_iff, hlen] at hn
  rw [Bool.eq_iff_iff]
  simp only [beq_iff_eq, decide_eq_true_eq]
  rw [← hn]; omega

set_option maxRecDepth 100000 in
set_option maxHeartbeats 300000 in
theorem named_any (p : Net) (h : Hd) (w : World) (hp : NetR w w.heap.size p h) (hs : Small p) (h0 : 0 < p.nodes.length) (hbad : (namesOf p).any badName = false) : Calls Tryz.prog 37 #[netV p h] w fun e w' => e = .returned (.bool (namedB p)) ∧ Below w.heap.size w w' := by
  have hnl : 0 < (namesOf p).length := by simp [namesOf, ndNames]; omega
  have hnl2 : (namesOf p).length ≤ 2000 := by have := hs.nodes; have := hs.dests; simp [namesOf, ndNames, dsNames]; omega
  have hlen : ((namesOf p).length : Int) = p.nodes.length + p.dests.length := by simp [namesOf, ndNames, dsNames]
  have hLen := Lib.hid hlen
  clear hlen
  have hNR : ∀ o, NetR (w.alloc o) (w.alloc o).heap.size p h := fun o => (hp.alloc (Nat.le_refl _) o).more (by simp)
  have HNR := Lib.hid hNR
  clear hNR hp
  obtain ⟨an, cn, al, cl, ad, cd, ac, cc, dv⟩ := h
  have hn := hs.nodes
  have hd := hs.dests
  unfold netV netVal at *
  go_enter Tryz.func37, Tryz.ntmps37
  go_wp2_with fail
  refine (names_any p ⟨an, cn, al, cl, ad, cd, ac, cc, dv⟩ _ (HNR.out _) hs).mono ?_
  rintro e w1 ⟨A, c, rfl, hown, hb1⟩
  have hc3 := hb1.cell (p := ⟨w.heap.size, 3, none⟩) (by simp)
  have hc5 := hb1.cell (p := ⟨w.heap.size, 5, none⟩) (by simp)
  simp at hc3 hc5
  have hsz1 := hb1.size
  simp at hsz1
  go_wp2_with fail
  refine (sorted_any (namesOf p) A c _ _ hown hnl (by omega)).mono ?_
  rintro e w2 ⟨rfl, l', hperm, hsorted, hown2, hg2⟩
  have hfrom := hown.from_
  simp only [World.size_alloc] at hfrom
  have hg2s := hg2.size
  have hblt : w.heap.size < w2.heap.size := by omega
  have hk2 : ∀ i, w2.cell? ⟨w.heap.size, i, none⟩ = w1.cell? ⟨w.heap.size, i, none⟩ := fun i => World.cell?_of_block (hg2.block w.heap.size (by omega) (fun e => by have := hfrom _ e.symm; omega))
  rw [← hk2 3] at hc3
  rw [← hk2 5] at hc5
  have hbw : Below w.heap.size w w2 := (((Below.refl _ _).alloc (Nat.le_refl _) _).trans (hb1.mono (by simp))).grown hg2 (by omega) (fun g hg => by have := hfrom g hg; omega)
  have hll : l'.length = (namesOf p).length := hperm.length_eq
  have hcf : ∀ wx, Below w2.heap.size w2 wx → Calls Tryz.prog 62 #[.slice A (namesOf p).length c, .func (.func 63) #[] #[]] wx fun e w' => e = .returned (.bool ((namesOf p).any badName)) ∧ Below w2.heap.size w2 w' := by
    intro wx hx
    have hrd := (hown2.call hx).rd
    have := cfStr l' A c wx (by rw [hll]; exact hrd) (by omega)
    rw [hll] at this
    refine this.mono ?_
    rintro e w' ⟨rfl, hb⟩
    refine ⟨?_, hx.trans (hb.mono hx.size)⟩
    congr 2
    rw [Bool.eq_iff_iff, List.any_eq_true, List.any_eq_true]
    constructor
    · rintro ⟨x, hx, h⟩; exact ⟨x, hperm.mem_iff.1 hx, h⟩
    · rintro ⟨x, hx, h⟩; exact ⟨x, hperm.mem_iff.2 hx, h⟩
  have HCF := Lib.hid hcf
  have HCO := Lib.hid (fun w3 (hb : Below w2.heap.size w2 w3) => compacted_any (namesOf p) l' A c _ w3 hperm hsorted (hown2.call hb) hnl (by omega))
  have HBW := Lib.hid hbw
  have HFR := Lib.hid hfrom
  clear hcf hbw hfrom hk2 hown hown2 hperm hsorted hll hg2 hb1
  have HK4 := Lib.hid (show ∀ (wx wy : World) (i : Nat), Below w2.heap.size w2 wx → wx.grownBy wy (blk A) → wy.cell? ⟨w.heap.size, i, none⟩ = wx.cell? ⟨w.heap.size, i, none⟩ from fun wx wy i hb hg => World.cell?_of_block (hg.block w.heap.size (by have := hb.size; omega) (fun e => by have := HFR.out _ e.symm; omega)))
  have HN := Lib.hid (show namedB p = decide (namesOf p).Nodup from by simp only [namedB, hbad]; rfl)
  have HCT := Lib.hid (fun wx hx => hbad ▸ HCF.out wx hx)
  clear hbad
  go_wp2_with fail
  go_region_held3 (fun wx => wx.cell? ⟨w.heap.size, 3, none⟩ = some (.slice an p.nodes.length cn) ∧ wx.cell? ⟨w.heap.size, 5, none⟩ = some (.slice ad p.dests.length cd)) (exact ⟨by assumption, by assumption⟩) (first
    | (go_at_call 62; refine (HCT.out _ ((Below.refl _ _).drew)).mono ?_; rintro e w3 ⟨rfl, hb3⟩; (have hc33 := (hb3.cell (p := ⟨w.heap.size, 3, none⟩) hblt).trans hc3); (have hc35 := (hb3.cell (p := ⟨w.heap.size, 5, none⟩) hblt).trans hc5))
    | (go_at_call 65; refine (HCO.out _ (by assumption)).mono ?_; rintro e w4 ⟨nn, cx, rfl, hnn, hg4⟩; (have hc43 := (HK4.out _ _ _ (by assumption) hg4).trans hc33); (have hc45 := (HK4.out _ _ _ (by assumption) hg4).trans hc35)))
  go_wp2
  go_ret
  exact ⟨ret_bool (by rw [HN.out, ← hnn, hLen.out, IntWalk.i64_in _ (by omega)]), (HBW.out.trans (hb3.mono (by omega))).grown hg4 (by have := hb3.size; omega) (fun g hg => by have := HFR.out g hg; omega)⟩
end

section
attribute [local go_sem ↓] Go.wp_at_zero Go.wp_at_succ
set_option maxRecDepth 100000 in
set_option maxHeartbeats 1000000 in
theorem named_bad (p : Net) (h : Hd) (w : World) (hp : NetR w w.heap.size p h) (hs : Small p) (h0 : 0 < p.nodes.length) (hbad : (namesOf p).any badName = true) : Calls Tryz.prog 37 #[netV p h] w fun e w' => e = .returned (.bool (namedB p)) ∧ Below w.heap.size w w' := by
  have hnl : 0 < (namesOf p).length := by simp [namesOf, ndNames]; omega
  have hnl2 : (namesOf p).length ≤ 2000 := by have := hs.nodes; have := hs.dests; simp [namesOf, ndNames, dsNames]; omega
  have hlen : ((namesOf p).length : Int) = p.nodes.length + p.dests.length := by simp [namesOf, ndNames, dsNames]
  have hLen := Lib.hid hlen
  clear hlen
  have hNR : ∀ o, NetR (w.alloc o) (w.alloc o).heap.size p h := fun o => (hp.alloc (Nat.le_refl _) o).more (by simp)
  have HNR := Lib.hid hNR
  clear hNR hp
  obtain ⟨an, cn, al, cl, ad, cd, ac, cc, dv⟩ := h
  have hn := hs.nodes
  have hd := hs.dests
  unfold netV netVal at *
  go_enter Tryz.func37, Tryz.ntmps37
  go_wp2_with fail
  refine (names_any p ⟨an, cn, al, cl, ad, cd, ac, cc, dv⟩ _ (HNR.out _) hs).mono ?_
  rintro e w1 ⟨A, c, rfl, hown, hb1⟩
  have hc3 := hb1.cell (p := ⟨w.heap.size, 3, none⟩) (by simp)
  have hc5 := hb1.cell (p := ⟨w.heap.size, 5, none⟩) (by simp)
  simp at hc3 hc5
  have hsz1 := hb1.size
  simp at hsz1
  go_wp2_with fail
  refine (sorted_any (namesOf p) A c _ _ hown hnl (by omega)).mono ?_
  rintro e w2 ⟨rfl, l', hperm, hsorted, hown2, hg2⟩
  have hfrom := hown.from_
  simp only [World.size_alloc] at hfrom
  have hg2s := hg2.size
  have hblt : w.heap.size < w2.heap.size := by omega
  have hk2 : ∀ i, w2.cell? ⟨w.heap.size, i, none⟩ = w1.cell? ⟨w.heap.size, i, none⟩ := fun i => World.cell?_of_block (hg2.block w.heap.size (by omega) (fun e => by have := hfrom _ e.symm; omega))
  rw [← hk2 3] at hc3
  rw [← hk2 5] at hc5
  have hbw : Below w.heap.size w w2 := (((Below.refl _ _).alloc (Nat.le_refl _) _).trans (hb1.mono (by simp))).grown hg2 (by omega) (fun g hg => by have := hfrom g hg; omega)
  have hll : l'.length = (namesOf p).length := hperm.length_eq
  have hcf : ∀ wx, Below w2.heap.size w2 wx → Calls Tryz.prog 62 #[.slice A (namesOf p).length c, .func (.func 63) #[] #[]] wx fun e w' => e = .returned (.bool ((namesOf p).any badName)) ∧ Below w2.heap.size w2 w' := by
    intro wx hx
    have hrd := (hown2.call hx).rd
    have := cfStr l' A c wx (by rw [hll]; exact hrd) (by omega)
    rw [hll] at this
    refine this.mono ?_
    rintro e w' ⟨rfl, hb⟩
    refine ⟨?_, hx.trans (hb.mono hx.size)⟩
    congr 2
    rw [Bool.eq_iff_iff, List.any_eq_true, List.any_eq_true]
    constructor
    · rintro ⟨x, hx, h⟩; exact ⟨x, hperm.mem_iff.1 hx, h⟩
    · rintro ⟨x, hx, h⟩; exact ⟨x, hperm.mem_iff.2 hx, h⟩
  have HCF := Lib.hid hcf
  have HCO := Lib.hid (fun w3 (hb : Below w2.heap.size w2 w3) => compacted_any (namesOf p) l' A c _ w3 hperm hsorted (hown2.call hb) hnl (by omega))
  have HBW := Lib.hid hbw
  have HFR := Lib.hid hfrom
  clear hcf hbw hfrom hk2 hown hown2 hperm hsorted hll hg2 hb1
  have HK4 := Lib.hid (show ∀ (wx wy : World) (i : Nat), Below w2.heap.size w2 wx → wx.grownBy wy (blk A) → wy.cell? ⟨w.heap.size, i, none⟩ = wx.cell? ⟨w.heap.size, i, none⟩ from fun wx wy i hb hg => World.cell?_of_block (hg.block w.heap.size (by have := hb.size; omega) (fun e => by have := HFR.out _ e.symm; omega)))
  have HN := Lib.hid (show namedB p = false from by simp only [namedB, hbad]; rfl)
  have HCT := Lib.hid (fun wx hx => hbad ▸ HCF.out wx hx)
  clear hbad
  go_wp2_with fail
  have hBd := below_drew (Below.refl w2.heap.size w2)
  refine wp_region_held_drew (S := (fun wx => wx.cell? ⟨w.heap.size, 3, none⟩ = some (.slice an p.nodes.length cn) ∧ wx.cell? ⟨w.heap.size, 5, none⟩ = some (.slice ad p.dests.length cd))) (by kernel_rfl) (⟨by assumption, by assumption⟩) (fun hHeld0 => ?_)
  refine take_list (i := 0) (v := ?_) rfl (by kernel_rfl) (by kernel_rfl) (by kernel_rfl) (fun _ _ _ h => h) (Or.inl ⟨by rfl, ?_⟩) (by assumption) ?_
  rotate_left
  · (intro w hSw; (try dsimp only at hSw); go_simp; try (with_reducible rfl))
  try simp only [Act.put, List.setIfInBounds_toArray, List.set_cons_zero, List.set_cons_succ]
  refine wpAnyH_ready (rs := [1]) (by kernel_rfl) (by simp) ?_
  refine cons_list rfl (fun K hK => ?_) AllReadyH.nil
  go_simp
  (go_at_call 62; refine (HCT.out _ hBd).mono ?_; rintro e w3 ⟨rfl, hb3⟩; (have hc33 := (hb3.cell (p := ⟨w.heap.size, 3, none⟩) hblt).trans hc3); (have hc35 := (hb3.cell (p := ⟨w.heap.size, 5, none⟩) hblt).trans hc5))
  refine hK.out _ _ (⟨by assumption, by assumption⟩) (fun hHeld1 => ?_)
  clear hK K hHeld0
  try simp only [Act.put, List.setIfInBounds_toArray, List.set_cons_zero, List.set_cons_succ]
  refine take_list (i := 2) (v := ?_) rfl (by kernel_rfl) (by kernel_rfl) (by kernel_rfl) (fun _ _ _ h => h) (Or.inl ⟨by rfl, ?_⟩) (by assumption) ?_
  rotate_left
  · (intro w hSw; (try dsimp only at hSw); go_simp; try (with_reducible rfl))
  try simp only [Act.put, List.setIfInBounds_toArray, List.set_cons_zero, List.set_cons_succ]
  refine take_list (i := 3) (v := ?_) rfl (by kernel_rfl) (by kernel_rfl) (by kernel_rfl) (fun _ _ _ h => h) (Or.inl ⟨by rfl, ?_⟩) (by assumption) ?_
  rotate_left
  · (intro w hSw; (try dsimp only at hSw); go_simp; try (with_reducible rfl))
  try simp only [Act.put, List.setIfInBounds_toArray, List.set_cons_zero, List.set_cons_succ]
  refine take_list (i := 4) (v := undef) rfl (by kernel_rfl) (by kernel_rfl) (by kernel_rfl) (fun _ _ _ h => h) (Or.inr ⟨by rfl, rfl⟩) (by assumption) ?_
  try simp only [Act.put, List.setIfInBounds_toArray, List.set_cons_zero, List.set_cons_succ]
  refine take_list (i := 5) (v := undef) rfl (by kernel_rfl) (by kernel_rfl) (by kernel_rfl) (fun _ _ _ h => h) (Or.inr ⟨by rfl, rfl⟩) (by assumption) ?_
  try simp only [Act.put, List.setIfInBounds_toArray, List.set_cons_zero, List.set_cons_succ]
  refine take_list (i := 6) (v := undef) rfl (by kernel_rfl) (by kernel_rfl) (by kernel_rfl) (fun _ _ _ h => h) (Or.inr ⟨by rfl, rfl⟩) (by assumption) ?_
  try simp only [Act.put, List.setIfInBounds_toArray, List.set_cons_zero, List.set_cons_succ]
  refine take_list (i := 7) (v := undef) rfl (by kernel_rfl) (by kernel_rfl) (by kernel_rfl) (fun _ _ _ h => h) (Or.inr ⟨by rfl, rfl⟩) (by assumption) ?_
  try simp only [Act.put, List.setIfInBounds_toArray, List.set_cons_zero, List.set_cons_succ]
  refine take_list (i := 8) (v := undef) rfl (by kernel_rfl) (by kernel_rfl) (by kernel_rfl) (fun _ _ _ h => h) (Or.inr ⟨by rfl, rfl⟩) (by assumption) ?_
  try simp only [Act.put, List.setIfInBounds_toArray, List.set_cons_zero, List.set_cons_succ]
  refine take_list (i := 9) (v := undef) rfl (by kernel_rfl) (by kernel_rfl) (by kernel_rfl) (fun _ _ _ h => h) (Or.inr ⟨by rfl, rfl⟩) (by assumption) ?_
  try simp only [Act.put, List.setIfInBounds_toArray, List.set_cons_zero, List.set_cons_succ]
  refine take_list (i := 10) (v := undef) rfl (by kernel_rfl) (by kernel_rfl) (by kernel_rfl) (fun _ _ _ h => h) (Or.inr ⟨by rfl, rfl⟩) (by assumption) ?_
  try simp only [Act.put, List.setIfInBounds_toArray, List.set_cons_zero, List.set_cons_succ]
  refine take_list (i := 11) (v := undef) rfl (by kernel_rfl) (by kernel_rfl) (by kernel_rfl) (fun _ _ _ h => h) (Or.inr ⟨by rfl, rfl⟩) (by assumption) ?_
  try simp only [Act.put, List.setIfInBounds_toArray, List.set_cons_zero, List.set_cons_succ]
  refine take_list (i := 12) (v := undef) rfl (by kernel_rfl) (by kernel_rfl) (by kernel_rfl) (fun _ _ _ h => h) (Or.inr ⟨by rfl, rfl⟩) (by assumption) ?_
  try simp only [Act.put, List.setIfInBounds_toArray, List.set_cons_zero, List.set_cons_succ]
  refine take_list (i := 13) (v := undef) rfl (by kernel_rfl) (by kernel_rfl) (by kernel_rfl) (fun _ _ _ h => h) (Or.inr ⟨by rfl, rfl⟩) (by assumption) ?_
  try simp only [Act.put, List.setIfInBounds_toArray, List.set_cons_zero, List.set_cons_succ]
  refine take_list (i := 14) (v := undef) rfl (by kernel_rfl) (by kernel_rfl) (by kernel_rfl) (fun _ _ _ h => h) (Or.inr ⟨by rfl, rfl⟩) (by assumption) ?_
  try simp only [Act.put, List.setIfInBounds_toArray, List.set_cons_zero, List.set_cons_succ]
  refine take_list (i := 15) (v := ?_) rfl (by kernel_rfl) (by kernel_rfl) (by kernel_rfl) (fun _ _ _ h => h) (Or.inl ⟨by rfl, ?_⟩) (by assumption) ?_
  rotate_left
  · (intro w hSw; (try dsimp only at hSw); go_simp; try (with_reducible rfl))
  try simp only [Act.put, List.setIfInBounds_toArray, List.set_cons_zero, List.set_cons_succ]
  refine take_list (i := 16) (v := ?_) rfl (by kernel_rfl) (by kernel_rfl) (by kernel_rfl) (fun _ _ _ h => h) (Or.inl ⟨by rfl, ?_⟩) (by assumption) ?_
  rotate_left
  · (intro w hSw; (try dsimp only at hSw); go_simp; try (with_reducible rfl))
  try simp only [Act.put, List.setIfInBounds_toArray, List.set_cons_zero, List.set_cons_succ]
  refine wpAnyH_done (by kernel_rfl) ?_ _
  clear hHeld1
  go_wp2
  go_ret
  exact ⟨ret_bool (by rw [HN.out]), HBW.out.trans (hb3.mono (by omega))⟩
theorem named_gen (p : Net) (h : Hd) (w : World) (hp : NetR w w.heap.size p h) (hs : Small p) (h0 : 0 < p.nodes.length) : Calls Tryz.prog 37 #[netV p h] w fun e w' => e = .returned (.bool (namedB p)) ∧ Below w.heap.size w w' := by
  by_cases hb : (namesOf p).any badName = true
  · exact named_bad p h w hp hs h0 hb
  · exact named_any p h w hp hs h0 (by simpa using hb)
end
end Go.Proofs.YtakolnmoieiicaaGreat

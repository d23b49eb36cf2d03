/- The walks of package plan, continued: names. -/
import Derived.Test.YtablbagdnmbbfaaGreatPlanW
namespace Go.Proofs.YtablbagdnmbbfaaGreat
set_option linter.unusedSimpArgs false
set_option linter.unusedVariables false
open Go.RowKit

theorem Tryz.info_str : (Tryz.prog.info? 9).map (fun i => (i.zero, i.size, i.bytes)) = some (some (.string ⟨#[]⟩), 1, 16) := by kernel_rfl

/-- A destination's cells, and where its origins lie. -/
theorem NetR.dest {w : World} {B : Nat} {p : Net} {h : Hd} (n : NetR w B p h) {i : Nat} {d : Ds} (hi : p.dests[i]? = some d) :
    ∃ b o a c, h.ad = some ⟨b, o, none⟩ ∧ b < B ∧ w.cell? ⟨b, o + i * 2, none⟩ = some (.string d.name) ∧ w.cell? ⟨b, o + i * 2 + 1, none⟩ = some (.slice a d.origins.length c) ∧ Rd w B 1 a d.origins.length (ints d.origins) := by
  have hlt : i < p.dests.length := (List.getElem?_eq_some_iff.1 hi).1
  have hlt' : i < h.dv.length := by rw [n.dlen]; exact hlt
  have hz : (p.dests.zip h.dv)[i]? = some (d, h.dv[i]) := by
    rw [List.getElem?_zip_eq_some]
    exact ⟨hi, List.getElem?_eq_getElem hlt'⟩
  have hR : Rd w B 2 h.ad (p.dests.zip h.dv).length ((p.dests.zip h.dv).flatMap dsCells) := by
    have := n.dests
    rwa [show p.dests.length = (p.dests.zip h.dv).length from by simp [n.dlen]] at this
  obtain ⟨b, o, e, hb, hc⟩ := hR.elem (f := dsCells) (fun _ => rfl) hz
  exact ⟨b, o, h.dv[i].1, h.dv[i].2, e, hb, hc 0 _ (by omega) rfl, hc 1 _ (by omega) rfl, n.origins _ (List.mem_of_getElem? hz)⟩

/-- What the walk keeps: the network's copy, and the names so far. -/
structure NamesW (w wr : World) (cs : Array Value) (A : Option Addr) (c : Nat) (l : List ByteArray) : Prop where
  below : Below w.heap.size w wr
  size : w.heap.size + 1 ≤ wr.heap.size
  plan : wr.heap[w.heap.size]? = some (.cells cs 30 (0, 0))
  own : Own wr (w.heap.size + 1) 9 1 A l.length c (strs l)
section
variable {w wr w' : World} {cs : Array Value} {A : Option Addr} {c : Nat} {l : List ByteArray}
theorem NamesW.begin (w : World) (cs : Array Value) : NamesW w (w.alloc (.cells cs 30)) cs none 0 [] where
  below := (Below.refl _ _).alloc (Nat.le_refl _) _
  size := by simp
  plan := heap_alloc_new _ _
  own := Own.nil _ _ _ _
theorem NamesW.at_ (h : NamesW w wr cs A c l) (i : Nat) : wr.cell? ⟨w.heap.size, i, none⟩ = cs[i]? := cell_of_row wr _ i _ _ _ h.plan
theorem NamesW.alloc (h : NamesW w wr cs A c l) (o : Obj) : NamesW w (wr.alloc o) cs A c l where
  below := h.below.alloc (by have := h.size; omega) o
  size := by have := h.size; simp; omega
  plan := (Below.heap_alloc _ _ _ (by have := h.size; omega)).trans h.plan
  own := h.own.alloc o
theorem NamesW.app {s : ByteArray} {A2 : Option Addr} {n c2 : Nat} (h : NamesW w wr cs A c l) (hn : n = l.length + 1) (ho : Own w' (w.heap.size + 1) 9 1 A2 n c2 (strs l ++ [.string s])) (hg : wr.grownBy w' (blk A)) :
    n = (l ++ [s]).length ∧ NamesW w w' cs A2 c2 (l ++ [s]) := by
  have e : n = (l ++ [s]).length := by simp [hn]
  subst e
  refine ⟨rfl, ⟨h.below.grown hg (by have := h.size; omega) (fun g hg' => by have := h.own.from_ g hg'; omega), Nat.le_trans h.size hg.size, (hg.block _ (by have := h.size; omega) (fun e => by have := h.own.from_ _ e.symm; omega)).trans h.plan, ?_⟩⟩
  simpa [strs] using ho
end

def ndNames (p : Net) : List ByteArray := p.nodes.map (·.name)
def dsNames (p : Net) : List ByteArray := p.dests.map (·.name)
def namesOf (p : Net) : List ByteArray := ndNames p ++ dsNames p
def NamesPost (p : Net) (w : World) (e : Ending) (w' : World) : Prop := ∃ A c, e = .returned (.slice A (namesOf p).length c) ∧ Own w' (w.heap.size + 1) 9 1 A (namesOf p).length c (strs (namesOf p)) ∧ Below w.heap.size w w'

set_option maxRecDepth 100000 in
set_option maxHeartbeats 2000000 in
theorem names_any (p : Net) (h : Hd) (w : World) (hp : NetR w w.heap.size p h) (hs : Small p) : Calls Tryz.prog 88 #[netV p h] w (NamesPost p w) := by
  have hn := hs.nodes
  have hd := hs.dests
  obtain ⟨is, his, hsz0, hsz1, hsz2⟩ := info_parts Tryz.info_str
  obtain ⟨an, cn, al, cl, ad, cd, ac, cc, dv⟩ := h
  have hR := hp.nodes
  have HP := Lib.hid hp
  clear hp hs
  unfold netV netVal
  go_enter Tryz.func88, Tryz.ntmps88
  go_wp2_with fail
  go_loopw [2, 10] (fun v i wr => ∃ (k : Nat) (A : Option Addr) (c : Nat), k ≤ p.nodes.length ∧ i = .int .i64 k ∧ v = .slice A ((ndNames p).take k).length c ∧
      NamesW w wr #[.int .i64 p.proto, .int .i64 p.cap, .int .i64 p.k, .slice an p.nodes.length cn, .slice al p.links.length cl, .slice ad p.dests.length cd, .slice ac p.checks.length cc] A c ((ndNames p).take k))
    (fun _ i _ => p.nodes.length - (intOf i).toNat)
  case atStart => exact ⟨0, none, 0, Nat.zero_le _, rfl, by simp, by simpa using NamesW.begin _ _⟩
  case round =>
    obtain ⟨k, A, c, hk, rfl, rfl, hN⟩ := hrel
    have hsz := hN.size
    have hszlt : w.heap.size < wr.heap.size := by omega
    have hlen : ((ndNames p).take k).length ≤ 1000 := by simp [ndNames]; omega
    by_cases hlt : k < p.nodes.length
    · obtain ⟨x, hx⟩ : ∃ x, p.nodes[k]? = some x := ⟨_, List.getElem?_eq_getElem hlt⟩
      obtain ⟨b, o, rfl, hb, hc0, hc1⟩ := hR.node hx
      rw [← hN.below.cell hb] at hc0 hc1
      have hts : (ndNames p).take (k + 1) = (ndNames p).take k ++ [x.name] := by
        rw [List.take_add_one]; simp [ndNames, hx]
      have HT := Lib.hid hts
      clear hx hts hR
      generalize (ndNames p).take k = l at *
      have hN1 := (hN.alloc (.cells #[.string x.name, .int .i64 x.as_] 50)).alloc (.cells #[.string x.name] 9)
      have HN1 := Lib.hid hN1
      clear hN1
      go_wp2_with (first | (at_builtin; refine wpList_app _ rfl _ _ 70 rfl (w.heap.size + 1) 9 is (.string ⟨#[]⟩) 1 16 Tryz.underlying70 his hsz0 hsz1 hsz2 rfl (by decide) _ _ _ (strs l) rfl (by exact HN1.out.own) _ 1 _ [.string x.name] rfl (Rd.new (by simp) rfl) (by intro u hu; simp at hu; subst hu; rfl) (by unfold maxLen; omega) (by omega) (by simp; omega) ?_; intro A2 c2 w2 hown2 hgrow2 hblk2 _))
      have R := HN1.out.app rfl hown2 hgrow2
      go_roundw
      case rel => exact ⟨k + 1, A2, c2, by omega, by go_num, by rw [HT.out, ← R.1], by rw [HT.out]; exact R.2⟩
      case measure => simp [intOf]; omega
    · have hkl : (ndNames p).take k = ndNames p := List.take_of_length_le (by simp [ndNames]; omega)
      rw [hkl] at hN hlen ⊢
      have hp5 := hN.at_ 5
      simp at hp5
      clear hkl hR
      go_wp2_with fail
      go_loopw [2, 23] (fun v i wr => ∃ (k : Nat) (A : Option Addr) (c : Nat), k ≤ p.dests.length ∧ i = .int .i64 k ∧ v = .slice A (ndNames p ++ (dsNames p).take k).length c ∧
          NamesW w wr #[.int .i64 p.proto, .int .i64 p.cap, .int .i64 p.k, .slice an p.nodes.length cn, .slice al p.links.length cl, .slice ad p.dests.length cd, .slice ac p.checks.length cc] A c (ndNames p ++ (dsNames p).take k))
        (fun _ i _ => p.dests.length - (intOf i).toNat)
      case atStart => exact ⟨0, A, c, Nat.zero_le _, rfl, by simp, by simpa using hN⟩
      case round =>
        clear hN hsz hszlt hp5
        obtain ⟨k, A, c, hk, rfl, rfl, hN⟩ := hrel
        have hsz := hN.size
        have hszlt : w.heap.size < wr.heap.size := by omega
        have hlen2 : (ndNames p ++ (dsNames p).take k).length ≤ 2000 := by simp [dsNames] at hlen ⊢; omega
        by_cases hlt : k < p.dests.length
        · obtain ⟨x, hx⟩ : ∃ x, p.dests[k]? = some x := ⟨_, List.getElem?_eq_getElem hlt⟩
          obtain ⟨b, o, a', cx, e', hb, hc0, hc1, _⟩ := HP.out.dest hx
          simp only at e'
          subst e'
          rw [← hN.below.cell hb] at hc0 hc1
          have hts : ndNames p ++ (dsNames p).take (k + 1) = (ndNames p ++ (dsNames p).take k) ++ [x.name] := by
            rw [List.take_add_one]; simp [dsNames, hx]
          have HT := Lib.hid hts
          clear hx hts
          generalize ndNames p ++ (dsNames p).take k = l at *
          have hN1 := (hN.alloc (.cells #[.string x.name, .slice a' x.origins.length cx] 55)).alloc (.cells #[.string x.name] 9)
          have HN1 := Lib.hid hN1
          clear hN1
          go_wp2_with (first | (at_builtin; refine wpList_app _ rfl _ _ 70 rfl (w.heap.size + 1) 9 is (.string ⟨#[]⟩) 1 16 Tryz.underlying70 his hsz0 hsz1 hsz2 rfl (by decide) _ _ _ (strs l) rfl (by exact HN1.out.own) _ 1 _ [.string x.name] rfl (Rd.new (by simp) rfl) (by intro u hu; simp at hu; subst hu; rfl) (by unfold maxLen; omega) (by omega) (by simp; omega) ?_; intro A2 c2 w2 hown2 hgrow2 hblk2 _))
          have R := HN1.out.app rfl hown2 hgrow2
          go_roundw
          case rel => exact ⟨k + 1, A2, c2, by omega, by go_num, by rw [HT.out, ← R.1], by rw [HT.out]; exact R.2⟩
          case measure => simp [intOf]; omega
        · have hkl : ndNames p ++ (dsNames p).take k = namesOf p := by rw [List.take_of_length_le (by simp [dsNames]; omega)]; rfl
          rw [hkl] at hN ⊢
          have HF := Lib.hid (show NamesPost p w (.returned (.slice A (namesOf p).length c)) wr from ⟨A, c, rfl, hN.own, hN.below⟩)
          clear hkl hN hlen2
          go_wp2
          go_ret
          exact HF.out
end Go.Proofs.YtablbagdnmbbfaaGreat

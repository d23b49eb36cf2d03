/- What the laws of backstaylaw11 share. -/
import Derived.Test.YtlnnmjomdblciaaGreatAwake11
import Derived.Test.YtlnnmjomdblciaaGreatCarryH
import Derived.Test.YtlnnmjomdblciaaGreatNetB
import Derived.Test.YtlnnmjomdblciaaGreatHeld
namespace Go.Proofs.YtlnnmjomdblciaaGreat
set_option linter.unusedSimpArgs false
set_option linter.unusedVariables false
open Go.RowKit

theorem pick11_any (c n : Int) (w : World) (hc : In64 c) (hn : 0 < n) (hn2 : n < 10000000000) : Calls Tryz.prog 22 #[.int .i64 c, .int .i64 n] w fun e w' => e = .returned (.int .i64 (pickV c n)) ∧ w = w' := by
  obtain ⟨h1, h2⟩ := hc
  have hn0 : n ≠ 0 := by omega
  by_cases h : c < 0
  · have HN := Lib.hid (show pickV c n = Int.tmod (-(c + 1)) n from by unfold pickV; rw [if_pos h, Int.tmod_eq_emod_of_nonneg (by omega)])
    go_enter Tryz.func22, Tryz.ntmps22
    go_wp2
    go_ret
    exact ⟨ret_int (by rw [HN.out, Int.neg_tmod]), rfl⟩
  · have HN := Lib.hid (show pickV c n = c % n from by unfold pickV; rw [if_neg h])
    go_enter Tryz.func22, Tryz.ntmps22
    go_wp2
    go_ret
    exact ⟨ret_int (by rw [HN.out]), rfl⟩
theorem nk_n {w0 w1 : World} {o : Obj} (hb : Below (w0.alloc o).heap.size (w0.alloc o) w1) : w1.heap[w0.heap.size]? = some o := (hb.block _ (by simp)).trans (heap_alloc_new _ _)
theorem nk_d {w0 w1 : World} {o : Obj} (hb : Below (w0.alloc o).drew.heap.size (w0.alloc o).drew w1) : w1.heap[w0.heap.size]? = some o := (hb.block w0.heap.size (by show w0.heap.size < (w0.alloc o).heap.size; simp)).trans (heap_alloc_new w0 o)
theorem bet_of_ar {p : Net} {f : Int} {u v : Nat} (hg : Good p) (h : Adj p.links f u v) {k : Nat} (hk : k ∈ arL p.links f u p.links.length) (ho : othL p.links k u = v) : betI p.links f u v = k := by
  obtain ⟨i, x, j⟩ := joint_of hg.lksOk hg.pairs h
  obtain ⟨h1, h2⟩ := mem_arL.1 hk
  have hy : p.links[k]? = some p.links[k] := List.getElem?_eq_getElem h1
  have hyo := hg.lksOk _ (List.mem_of_getElem? hy)
  have hxo := hg.lksOk _ (List.mem_of_getElem? j.at_)
  rw [othL_at hy] at ho
  have hends : (p.links[k].a = u ∧ p.links[k].b = v) ∨ (p.links[k].b = u ∧ p.links[k].a = v) := by
    obtain ⟨m, e1, e2, e3⟩ := ar_oth hg.lksOk hy h2
    unfold othV at ho
    split at ho
    · left; omega
    · split at ho
      · right; omega
      · omega
  have e := j.ends
  rw [j.bet]
  have : k = i := pair_uniq hg.pairs hy j.at_ (by omega) (by omega)
  omega
theorem WayQ.tail {p : Net} {f : Int} {u v : Nat} {t : List Nat} (h : WayQ p f (u :: v :: t)) (hg : Good p) : WayQ p f (v :: t) ∧ Adj p.links f u v := by
  obtain ⟨b, a, hb, ha, hw⟩ := h.ex
  cases hw with
  | cons h1 ht hu =>
    obtain ⟨t', e⟩ := ht.head
    injection e with e1 e2
    subst e1
    exact ⟨⟨b, v, hb, (adj_lt hg.lksOk _ _ h1).2, ht⟩, h1⟩
/-- A route in a box, and what was there. -/
structure OW (w5 wr : World) (b : Nat) (r : Rt) (A : Option Addr) (c : Nat) : Prop where
  below : Below w5.heap.size w5 wr
  box : Box wr b r A c
theorem OW.new {w5 wm : World} {r : Rt} {A : Option Addr} {c : Nat} (hB : Below w5.heap.size w5 wm) (h : RtR wm wm.heap.size r A c) : OW w5 (wm.alloc (.cells #[.int .i64 r.kind, .int .i64 r.cost, .slice A r.path.length c] 24)) wm.heap.size r A c := ⟨since_alloc hB _, Box.new h⟩
theorem OW.call {w5 wr w' : World} {b : Nat} {r : Rt} {A : Option Addr} {c : Nat} (a : OW w5 wr b r A c) (hb : Below wr.heap.size wr w') : OW w5 w' b r A c := ⟨since_trans a.below hb, a.box.call hb⟩
theorem OW.keep {w5 wr : World} {b : Nat} {r : Rt} {A : Option Addr} {c : Nat} (a : OW w5 wr b r A c) : ∀ wy, Below wr.heap.size wr wy → OW w5 wy b r A c := fun _ hb => a.call hb
theorem drew_of {wr : World} {C : World → Prop} (_ : ∀ wy, Below wr.heap.size wr wy → C wy) : Below wr.heap.size wr wr.drew := below_drew (Below.refl _ _)
theorem below_drew' {B : Nat} {w wx : World} (h : Below B w wx) : Below B w wx.drew := h.trans ⟨rfl, rfl, rfl, Nat.le_refl _, fun _ _ => rfl⟩
theorem OW.drew {w5 wr : World} {b : Nat} {r : Rt} {A : Option Addr} {c : Nat} (a : OW w5 wr b r A c) : OW w5 wr.drew b r A c := a.call (below_drew (Below.refl _ _))
theorem OW.put {w5 w' : World} {b B : Nat} {r : Rt} {A : Option Addr} {c : Nat} (hB : Below w5.heap.size w5 w') (hb : w5.heap.size ≤ b) (hbB : b < B) (ho : OwnOr w' B A c r.path) (kz : w'.heap[b]? = some (.cells #[.int .i64 0, .int .i64 0, .slice none 0 0] 24 (0, 0))) :
    OW w5 (((w'.setCell ⟨b, 0, none⟩ (.int .i64 r.kind)).setCell ⟨b, 1, none⟩ (.int .i64 r.cost)).setCell ⟨b, 2, none⟩ (.slice A r.path.length c)) b r A c := by
  have h1 := heap_setCell_same w' b 0 _ _ (.int .i64 r.kind) kz
  have h2 := heap_setCell_same _ b 1 _ _ (.int .i64 r.cost) h1
  have h3 := heap_setCell_same _ b 2 _ _ (.slice A r.path.length c) h2
  exact ⟨((hB.setCell hb _).setCell hb _).setCell hb _, ⟨h3, (((ho.far (q := ⟨b, 0, none⟩) hbB _).far (q := ⟨b, 1, none⟩) hbB _).far (q := ⟨b, 2, none⟩) hbB _).rt r.kind r.cost⟩⟩
theorem OW.both {w5 wr w' : World} {b b2 : Nat} {r r2 : Rt} {A A2 : Option Addr} {c c2 : Nat} (a : OW w5 wr b r A c) (h : OW wr w' b2 r2 A2 c2) : OW w5 w' b r A c := a.call h.below
end Go.Proofs.YtlnnmjomdblciaaGreat

/- What carry.Own answers at a network that may be. -/
import Derived.Test.YtablbagdnmbbfaaGreatCarryH
namespace Go.Proofs.YtablbagdnmbbfaaGreat
set_option linter.unusedSimpArgs false
set_option linter.unusedVariables false
open Go.RowKit

/-- The answer's block, a route put there. -/
theorem rt_put {w0 w : World} {b : Nat} {A : Option Addr} {c : Nat} {r : Rt} (hb : Below w0.heap.size w0 w) (lo : w0.heap.size ≤ b) (h : w.heap[b]? = some (.cells #[.int .i64 r.kind, .int .i64 r.cost, .slice A r.path.length c] 53 (0, 0))) (u0 u1 u2 : Value) :
    Below w0.heap.size w0 (((w.setCell ⟨b, 0, none⟩ u0).setCell ⟨b, 1, none⟩ u1).setCell ⟨b, 2, none⟩ u2) ∧
    (w.cell? ⟨b, 0, none⟩ = some (.int .i64 r.kind) ∧ w.cell? ⟨b, 1, none⟩ = some (.int .i64 r.cost) ∧ w.cell? ⟨b, 2, none⟩ = some (.slice A r.path.length c)) ∧
    (w.frozen? ⟨b, 0, none⟩ = false ∧ w.frozen? ⟨b, 1, none⟩ = false ∧ w.frozen? ⟨b, 2, none⟩ = false) :=
  ⟨((hb.setCell lo _).setCell lo _).setCell lo _, ⟨cell_of_row w _ 0 _ _ _ h, cell_of_row w _ 1 _ _ _ h, cell_of_row w _ 2 _ _ _ h⟩, ⟨frozen_of_row w _ 0 _ _ h, frozen_of_row w _ 1 _ _ h, frozen_of_row w _ 2 _ _ h⟩⟩
theorem NetR.dest1 {w : World} {B : Nat} {p : Net} {h : Hd} (n : NetR w B p h) {d : Nat} (hd : d < p.dests.length) :
    ∃ (z : Ds × (Option Addr × Nat)) (b o : Nat), p.dests[d]? = some z.1 ∧ h.ad = some ⟨b, o, none⟩ ∧ b < B ∧ w.cell? ⟨b, o + d * 2 + 1, none⟩ = some (.slice z.2.1 z.1.origins.length z.2.2) ∧ Rd w B 1 z.2.1 z.1.origins.length (ints z.1.origins) := by
  have hl : (p.dests.zip h.dv).length = p.dests.length := by rw [List.length_zip, n.dlen, Nat.min_self]
  obtain ⟨z, hz⟩ : ∃ z, (p.dests.zip h.dv)[d]? = some z := ⟨_, List.getElem?_eq_getElem (by omega)⟩
  have hr := n.dests
  rw [← hl] at hr
  obtain ⟨b, o, e, hb, hc⟩ := hr.elem (f := dsCells) (fun _ => rfl) hz
  have h1 := (List.getElem?_zip_eq_some.1 (show (p.dests.zip h.dv)[d]? = some (z.1, z.2) from hz)).1
  exact ⟨z, b, o, h1, e, hb, hc 1 _ (by omega) rfl, n.origins z (List.mem_of_getElem? hz)⟩
set_option maxRecDepth 100000 in
set_option maxHeartbeats 4000000 in
theorem ownX_any (p : Net) (h : Hd) (d n : Int) (w : World) (hp : NetR w w.heap.size p h) (hg : Good p) :
    Calls Tryz.prog 67 #[netV p h, .int .i64 d, .int .i64 n] w fun e w' => e = .returned (rtV (ownR p d n) none 0) ∧ Below w.heap.size w w' := by
  have PX : Hid (PR w ((w.alloc (.cells (netCells p h) 30)).alloc (.cells #[.int .i64 0, .int .i64 0, .slice none 0 0] 53)) p h rtNone none 0) := Lib.hid (PR.begin hp rtR_nil)
  have HG := Lib.hid hg
  unfold netV netVal
  clear hp hg
  by_cases hin : placeB d p.dests.length = true ∧ n ∈ orgOf p d
  · obtain ⟨hd, hn⟩ := hin
    have hd' : 0 ≤ d ∧ d < p.dests.length := by unfold placeB at hd; simpa using hd
    obtain ⟨d, rfl⟩ : ∃ k : Nat, d = k := ⟨d.toNat, by omega⟩
    have HN := Lib.hid (show ownR p d n = rtOwn p from by unfold ownR; rw [if_pos ⟨hd, hn⟩])
    have HI := Lib.hid hn
    have hd0 : (0 : Int) ≤ (d : Int) := by omega
    have hd1 : (d : Int) < (p.dests.length : Int) := by omega
    clear hd hn hd'
    go_enter Tryz.func67, Tryz.ntmps67
    go_wp2_with fail
    refine (right_any p h _ PX.out.net HG.out.small HG.out.names).mono ?_
    rintro e w1 ⟨rfl, hb1⟩
    rw [HG.out.right]
    have P1 := Lib.hid (PX.out.call hb1)
    obtain ⟨c0, c1, c2, c3, c4, c5, c6⟩ := P1.out.all
    obtain ⟨z, b, o, hz, he, hb, hc, hr⟩ := P1.out.net.dest1 (d := d) (by omega)
    have HE := Lib.hid he
    rw [he] at c5
    have hl := HG.out.small.origins _ (List.mem_of_getElem? hz)
    have HR := Lib.hid hr
    have HM := Lib.hid (show decide (n ∈ z.1.origins) = true from by
      have := HI.out
      unfold orgOf at this
      simp only [Int.toNat_natCast, hz] at this
      simpa using this)
    clear hb1 he hz hr
    go_wp2_with fail
    refine (containsI_any z.1.origins n _ _ _ _ HR.out (by omega)).mono ?_
    rintro e w2 ⟨rfl, rfl⟩
    rw [HM.out]
    go_wp2_with fail
    have ho := of_any p h w1
    unfold netV netVal at ho
    rw [HE.out] at ho
    refine ho.mono ?_
    rintro e w2 ⟨rfl, hb2⟩
    have P2 := Lib.hid (P1.out.call hb2)
    clear ho hb2
    by_cases h2 : p.proto = 2
    · have HO := Lib.hid (show rtOwn p = ⟨2, 0, []⟩ from by unfold rtOwn; rw [if_pos h2])
      rw [show protoV p = .iface 138 (.agg #[.int .i64 p.cap]) from by unfold protoV; rw [if_pos h2]]
      clear h2 c0 c1 c2 c3 c4 c5 c6
      go_wp2_with (go_at_call 183; refine (pown_any p.cap _).mono ?_; rintro e w3 ⟨rfl, hb3⟩; have P3 := Lib.hid (P2.out.call hb3); obtain ⟨hfin, ⟨r0, r1, r2⟩, ⟨f0, f1, f2⟩⟩ := rt_put P3.out.below (Nat.le_succ _) P3.out.box (.int .i64 2) (.int .i64 0) (.slice none 0 0))
      exact bodyPost_ret (v := .agg #[.int .i64 2, .int .i64 0, .slice none 0 0]) (by simp [results, Tryz.results67, go_sem, r0, r1, r2]) rfl ⟨by rw [HN.out, HO.out]; rfl, hfin⟩
    · have HO := Lib.hid (show rtOwn p = ⟨1, 0, []⟩ from by unfold rtOwn; rw [if_neg h2])
      rw [show protoV p = .iface 139 (.agg #[]) from by unfold protoV; rw [if_neg h2]]
      clear h2 c0 c1 c2 c3 c4 c5 c6
      go_wp2_with (go_at_call 188; refine (vown_any _).mono ?_; rintro e w3 ⟨rfl, hb3⟩; have P3 := Lib.hid (P2.out.call hb3); obtain ⟨hfin, ⟨r0, r1, r2⟩, ⟨f0, f1, f2⟩⟩ := rt_put P3.out.below (Nat.le_succ _) P3.out.box (.int .i64 1) (.int .i64 0) (.slice none 0 0))
      exact bodyPost_ret (v := .agg #[.int .i64 1, .int .i64 0, .slice none 0 0]) (by simp [results, Tryz.results67, go_sem, r0, r1, r2]) rfl ⟨by rw [HN.out, HO.out]; rfl, hfin⟩
  · have HN := Lib.hid (show ownR p d n = rtNone from by unfold ownR; rw [if_neg hin])
    have HF : Hid (∀ w', Below w.heap.size w w' → (Ending.returned (.agg #[.int .i64 0, .int .i64 0, .slice none 0 0]) = Ending.returned (rtV (ownR p d n) none 0) ∧ Below w.heap.size w w')) := Lib.hid (fun w' hb => ⟨by rw [HN.out]; rfl, hb⟩)
    by_cases h0 : d < 0
    · clear hin
      go_enter Tryz.func67, Tryz.ntmps67
      go_wp2_with fail
      refine (right_any p h _ PX.out.net HG.out.small HG.out.names).mono ?_
      rintro e w1 ⟨rfl, hb1⟩
      rw [HG.out.right]
      have P1 := Lib.hid (PX.out.call hb1)
      obtain ⟨hfin, ⟨r0, r1, r2⟩, ⟨f0, f1, f2⟩⟩ := rt_put P1.out.below (Nat.le_succ _) P1.out.box (.int .i64 0) (.int .i64 0) (.slice none 0 0)
      have HB := Lib.hid hfin
      clear hb1 hfin
      go_wp2
      exact bodyPost_ret (v := .agg #[.int .i64 0, .int .i64 0, .slice none 0 0]) (by simp [results, Tryz.results67, go_sem, r0, r1, r2]) rfl (HF.out _ HB.out)
    · by_cases h1 : (p.dests.length : Int) ≤ d
      · have h0' : 0 ≤ d := by omega
        clear hin h0
        go_enter Tryz.func67, Tryz.ntmps67
        go_wp2_with fail
        refine (right_any p h _ PX.out.net HG.out.small HG.out.names).mono ?_
        rintro e w1 ⟨rfl, hb1⟩
        rw [HG.out.right]
        have P1 := Lib.hid (PX.out.call hb1)
        obtain ⟨c0, c1, c2, c3, c4, c5, c6⟩ := P1.out.all
        obtain ⟨hfin, ⟨r0, r1, r2⟩, ⟨f0, f1, f2⟩⟩ := rt_put P1.out.below (Nat.le_succ _) P1.out.box (.int .i64 0) (.int .i64 0) (.slice none 0 0)
        have HB := Lib.hid hfin
        clear hb1 hfin
        go_wp2
        exact bodyPost_ret (v := .agg #[.int .i64 0, .int .i64 0, .slice none 0 0]) (by simp [results, Tryz.results67, go_sem, r0, r1, r2]) rfl (HF.out _ HB.out)
      · obtain ⟨d, rfl⟩ : ∃ k : Nat, d = k := ⟨d.toNat, by omega⟩
        have hd0 : (0 : Int) ≤ (d : Int) := by omega
        have hd1 : (d : Int) < (p.dests.length : Int) := by omega
        have HI := Lib.hid (show n ∉ orgOf p d from fun e => hin ⟨by unfold placeB; simpa using hd1, e⟩)
        clear hin h0 h1
        go_enter Tryz.func67, Tryz.ntmps67
        go_wp2_with fail
        refine (right_any p h _ PX.out.net HG.out.small HG.out.names).mono ?_
        rintro e w1 ⟨rfl, hb1⟩
        rw [HG.out.right]
        have P1 := Lib.hid (PX.out.call hb1)
        obtain ⟨c0, c1, c2, c3, c4, c5, c6⟩ := P1.out.all
        obtain ⟨z, b, o, hz, he, hb, hc, hr⟩ := P1.out.net.dest1 (d := d) (by omega)
        have HE := Lib.hid he
        rw [he] at c5
        have hl := HG.out.small.origins _ (List.mem_of_getElem? hz)
        have HR := Lib.hid hr
        have HM := Lib.hid (show decide (n ∈ z.1.origins) = false from by
          have := HI.out
          unfold orgOf at this
          simp only [Int.toNat_natCast, hz] at this
          simpa using this)
        obtain ⟨hfin, ⟨r0, r1, r2⟩, ⟨f0, f1, f2⟩⟩ := rt_put P1.out.below (Nat.le_succ _) P1.out.box (.int .i64 0) (.int .i64 0) (.slice none 0 0)
        have HB := Lib.hid hfin
        clear hb1 he hz hr hfin
        go_wp2_with fail
        refine (containsI_any z.1.origins n _ _ _ _ HR.out (by omega)).mono ?_
        rintro e w2 ⟨rfl, rfl⟩
        rw [HM.out]
        go_wp2
        exact bodyPost_ret (v := .agg #[.int .i64 0, .int .i64 0, .slice none 0 0]) (by simp [results, Tryz.results67, go_sem, r0, r1, r2]) rfl (HF.out _ HB.out)
end Go.Proofs.YtablbagdnmbbfaaGreat

/- The walk of backstaylaw06.AttrBest. (UNDER WAY) -/
import Derived.Test.YtidmpfenkgihjaaDoorAttrA
import Derived.Test.YtidmpfenkgihjaaDoorAttrB
import Derived.Test.YtidmpfenkgihjaaDoorRegs
namespace Go.Proofs.YtidmpfenkgihjaaDoor
set_option linter.unusedSimpArgs false
set_option linter.unusedVariables false
open Go.RowKit

/-- Best of l[k:] and l is Best of l. -/
theorem turned_best {w0 wr : World} {L : List RtZ} {A A3 : Option Addr} {c c3 n B : Nat} (a : LW w0 wr L A c) (hl : L.length ≤ 100) (hsh : ∀ z ∈ L, z.1.path.length ≤ 1000000) (hok : ∀ z ∈ L, RtOk z.1) (k : Nat) (hn : n = (L.drop k ++ L).length) (ho : Own wr B 41 3 A3 n c3 ((L.drop k).flatMap rtCells ++ L.flatMap rtCells)) :
    Calls Tryd.prog 26 #[.slice A3 n c3] wr fun e w' => ∃ A c, e = .returned (rtV (bestR (L.map (·.1))) A c) ∧ Own w' wr.heap.size 3 1 A (bestR (L.map (·.1))).path.length c (ints (bestR (L.map (·.1))).path) ∧ Below wr.heap.size wr w' := by
  subst hn
  have hm : ∀ z ∈ L.drop k ++ L, z ∈ L := fun z hz => (List.mem_append.1 hz).elim (List.mem_of_mem_drop) id
  have h : RtsR wr wr.heap.size (L.drop k ++ L) A3 := ⟨by rw [List.flatMap_append]; exact ho.rd, fun z hz => a.rts.each z (hm z hz)⟩
  have e : bestR ((L.drop k ++ L).map (·.1)) = bestR (L.map (·.1)) := by
    refine best_same (fun x hx => ?_) (fun x => ?_)
    · obtain ⟨z, hz, rfl⟩ := List.mem_map.1 hx
      exact hok z hz
    · rw [List.mem_map, List.mem_map]
      exact ⟨fun ⟨z, hz, e⟩ => ⟨z, List.mem_append_right _ hz, e⟩, fun ⟨z, hz, e⟩ => ⟨z, hm z hz, e⟩⟩
  refine (best_any (L.drop k ++ L) A3 c3 wr h (by simp; omega) (fun z hz => hsh z (hm z hz))).mono ?_
  rw [e]
  rintro e w' ⟨A', c', h1, h2, -, h3⟩
  exact ⟨A', c', h1, h2, h3⟩
theorem ok_path {r : Rt} (h : RtOk r) : r.path.length ≤ 1000000 := by
  rcases h.kind with e | e | e
  · rw [h.k0 e]; simp [rtNone]
  · rw [(h.k1 e).2.2]; simp
  · have := (h.k2 e).2.1; omega
/-- Best of l[:k]. -/
theorem part_take {w0 wr : World} {L : List RtZ} {A : Option Addr} {c k : Nat} (a : LW w0 wr L A c) (hl : L.length ≤ 100) (hsh : ∀ z ∈ L, z.1.path.length ≤ 1000000) (hk : k ≤ L.length) :
    Calls Tryd.prog 26 #[.slice A k c] wr fun e w' => ∃ A c, e = .returned (rtV (bestR ((L.take k).map (·.1))) A c) ∧ RtR w' w'.heap.size (bestR ((L.take k).map (·.1))) A c ∧ Below wr.heap.size wr w' := by
  have e : (L.take k).length = k := by simp; omega
  have h := best_any (L.take k) A c wr ⟨by rw [e]; exact a.takeRd hk, fun z hz => a.rts.each z (List.mem_of_mem_take hz)⟩ (by omega) (fun z hz => hsh z (List.mem_of_mem_take hz))
  rw [e] at h
  refine h.mono ?_
  rintro e w' ⟨A', c', h1, h2, -, h3⟩
  exact ⟨A', c', h1, RtR.of_own h2, h3⟩
/-- Best of l[k:]. -/
theorem part_drop {w0 wr : World} {L : List RtZ} {A A3 : Option Addr} {c c3 k : Nat} (a : LW w0 wr L A c) (hl : L.length ≤ 100) (hsh : ∀ z ∈ L, z.1.path.length ≤ 1000000) (hr : Rd wr wr.heap.size 3 A3 (L.length - k) ((L.drop k).flatMap rtCells)) :
    Calls Tryd.prog 26 #[.slice A3 (L.length - k) c3] wr fun e w' => ∃ A c, e = .returned (rtV (bestR ((L.drop k).map (·.1))) A c) ∧ RtR w' w'.heap.size (bestR ((L.drop k).map (·.1))) A c ∧ Below wr.heap.size wr w' := by
  have e : (L.drop k).length = L.length - k := by simp
  have h := best_any (L.drop k) A3 c3 wr ⟨by rw [e]; exact hr, fun z hz => a.rts.each z (List.mem_of_mem_drop hz)⟩ (by omega) (fun z hz => hsh z (List.mem_of_mem_drop hz))
  rw [e] at h
  refine h.mono ?_
  rintro e w' ⟨A', c', h1, h2, -, h3⟩
  exact ⟨A', c', h1, RtR.of_own h2, h3⟩
/-- Best of both. -/
theorem part_two {wr : World} {q1 q2 : Rt} {A1 A2 : Option Addr} {c1 c2 b : Nat} (hr : Rd wr wr.heap.size 3 (some ⟨b, 0, none⟩) 2 [.int .i64 q1.kind, .int .i64 q1.cost, .slice A1 q1.path.length c1, .int .i64 q2.kind, .int .i64 q2.cost, .slice A2 q2.path.length c2])
    (h1 : RtR wr wr.heap.size q1 A1 c1) (h2 : RtR wr wr.heap.size q2 A2 c2) (k1 : q1.path.length ≤ 1000000) (k2 : q2.path.length ≤ 1000000) :
    Calls Tryd.prog 26 #[.slice (some ⟨b, 0, none⟩) 2 2] wr fun e w' => ∃ A c, e = .returned (rtV (bestR [q1, q2]) A c) ∧ OwnOr w' wr.heap.size A c (bestR [q1, q2]).path ∧ Below wr.heap.size wr w' := by
  have h := best_any [((q1, (A1, c1)) : RtZ), ((q2, (A2, c2)) : RtZ)] (some ⟨b, 0, none⟩) 2 wr ⟨hr, by intro z hz; simp at hz; rcases hz with rfl | rfl <;> assumption⟩ (by simp) (by intro z hz; simp at hz; rcases hz with rfl | rfl <;> assumption)
  refine h.mono ?_
  rintro e w' ⟨A', c', h1, h2, -, h3⟩
  exact ⟨A', c', h1, .inl h2, h3⟩
theorem kept_ab {w0 w1 : World} {o : Obj} (hb : Below (w0.alloc o).heap.size (w0.alloc o) w1) : w1.heap[w0.heap.size]? = some o := (hb.block _ (by simp)).trans (heap_alloc_new _ _)
theorem kept_ab_d {w0 w1 : World} {o : Obj} (hb : Below (w0.alloc o).drew.heap.size (w0.alloc o).drew w1) : w1.heap[w0.heap.size]? = some o := (hb.block w0.heap.size (by show w0.heap.size < (w0.alloc o).heap.size; simp)).trans (heap_alloc_new w0 o)
theorem put_ab {w : World} {b B : Nat} {A : Option Addr} {c : Nat} {k co : Int} {l : List Int} (kz : w.heap[b]? = some (.cells #[.int .i64 0, .int .i64 0, .slice none 0 0] 41 (0, 0))) (h : OwnOr w B A c l) (hb : b < B) :
    Box (((w.setCell ⟨b, 0, none⟩ (.int .i64 k)).setCell ⟨b, 1, none⟩ (.int .i64 co)).setCell ⟨b, 2, none⟩ (.slice A l.length c)) b ⟨k, co, l⟩ A c := by
  refine ⟨?_, ?_⟩
  · rw [heap_setCell_same _ _ _ _ _ _ (heap_setCell_same _ _ _ _ _ _ (heap_setCell_same _ _ _ _ _ _ kz))]; simp
  · exact (((h.far (q := ⟨b, 0, none⟩) hb _).far (q := ⟨b, 1, none⟩) hb _).far (q := ⟨b, 2, none⟩) hb _).rt _ _
theorem new_ab {w : World} {B : Nat} {A : Option Addr} {c : Nat} {k co : Int} {l : List Int} (h : OwnOr w B A c l) :
    Box (w.alloc (.cells #[.int .i64 k, .int .i64 co, .slice A l.length c] 41)) w.heap.size ⟨k, co, l⟩ A c := Box.new (h.rt k co)
attribute [local go_sem ↓] Go.wp_at_zero Go.wp_at_succ
set_option maxRecDepth 100000 in
set_option maxHeartbeats 8000000 in
theorem attrBest_walk (a0 : Option Addr) (c0 : Nat) (l0 : List (List Int)) (V0 : List (Option Addr × Nat)) (n1 : Int) (w : World) (h0 : RowsIn w a0 c0 l0 V0) (k1 : In64 n1) (ht : Tab w) :
    Calls Tryd.prog 5 #[.slice a0 l0.length c0, .int .i64 n1] w fun e w' => e = .returned (.bool true) ∧ Below w.heap.size w w' := by
  have H0 := Lib.hid h0
  have HT := Lib.hid ht
  have I1 := Lib.hid k1
  have hml : l0.length ≤ maxLen := Nat.le_trans h0.le h0.max
  unfold maxLen at hml
  obtain ⟨i3, hi3, hz3, hs3, hb3⟩ := info_parts Tryd.info_rt
  clear h0 ht k1
  go_enter Tryd.func5, Tryd.ntmps5
  go_wp2_with fail
  refine (awake6 _ HT.out).mono ?_
  rintro e w1 ⟨rfl, hb1⟩
  have J0 := Lib.hid (H0.out.call hb1)
  have B1 := Lib.hid hb1
  clear hb1
  go_upto_region 3 with fail
  go_cut [7] from 7 to 7 (fun s wx => s = .int .i64 0 ∧ wx = w1)
  case first =>
    go_wp2_with fail
    go_meet
    case rel => exact ⟨rfl, rfl⟩
  case rest =>
  obtain ⟨rfl, hwc⟩ := hcut
  subst hwc
  rename_i hKl
  refine hKl _ _ ?_
  clear hKl
  go_cut [6] from 15 to 32 (fun sl wx => ∃ (L : List RtZ) (A : Option Addr) (c : Nat), sl = .slice A L.length c ∧ L.length ≤ 8 ∧ L.map (·.1) = (l0.take L.length).map routeR ∧ LW wc wx L A c)
  case first =>
    go_wp2_with fail
    go_loopw [6, 7] (fun sl si wx => ∃ (k : Nat) (L : List RtZ) (A : Option Addr) (c : Nat), k ≤ l0.length ∧ k ≤ 8 ∧ L.length = k ∧ si = .int .i64 k ∧ sl = .slice A L.length c ∧ L.map (·.1) = (l0.take k).map routeR ∧ LW wc wx L A c) (fun _ si _ => 8 - (intOf si).toNat)
    case atStart => exact ⟨0, [], none, 0, by omega, by omega, rfl, rfl, rfl, by simp, LW.begin (Below.refl _ _)⟩
    case round =>
      obtain ⟨k, L, A, c, hk, hk8, hLk, rfl, rfl, hmap, hL⟩ := hrel
      have LX := Lib.hid hL
      have MX := Lib.hid hmap
      have HLk := Lib.hid hLk
      have hL8 : L.length ≤ 8 := by omega
      clear hL hmap hLk
      by_cases hlt : k < l0.length ∧ k < 8
      · obtain ⟨hlt1, hlt2⟩ := hlt
        have J := Lib.hid (J0.out.call LX.out.below)
        obtain ⟨z, hz⟩ : ∃ z, (l0.zip V0)[k]? = some z := ⟨_, List.getElem?_eq_getElem (by have := J0.out.len; rw [List.length_zip]; omega)⟩
        obtain ⟨b, o, rfl, hb, hc⟩ := J.out.row.one (i := k) (x := rowV z) (by rw [List.getElem?_map, hz]; rfl)
        have IR := Lib.hid (J.out.each z (List.mem_of_getElem? hz))
        have hz1 : l0[k]? = some z.1 := by
          have := List.getElem?_zip_eq_some.1 (show (l0.zip V0)[k]? = some (z.1, z.2) from hz)
          exact this.1
        have HZ := Lib.hid hz1
        unfold rowV at hc
        have hk0 : (0 : Int) ≤ (k : Int) := by omega
        have hk1 : (k : Int) < (l0.length : Int) := by omega
        clear hz hz1
        go_wp2_with fail
        refine (route_any z.1 _ _ _ IR.out.rd IR.out.in64 IR.out.len).mono ?_
        rintro e w4 ⟨A4, d4, rfl, ho, hb4⟩
        have L4 := Lib.hid (LX.out.call hb4)
        have O4 := Lib.hid ho
        have hsz := LX.out.below.size
        clear ho hb4
        unfold rtV
        have HM := Lib.hid (show (L ++ [((routeR z.1, (A4, d4)) : RtZ)]).map (·.1) = (l0.take (k + 1)).map routeR from by rw [List.map_append, MX.out, List.take_add_one, HZ.out, List.map_append]; rfl)
        go_wp2_with (at_builtin; go_loud (refine wpList_app _ rfl _ _ 44 rfl (wc.heap.size) 41 i3 _ 3 40 Tryd.underlying44 hi3 hz3 hs3 hb3 rfl (by decide) _ _ _ (L.flatMap rtCells) rfl (L4.out.alloc _).row _ 1 _ (rtCells (routeR z.1, (A4, d4))) rfl (Rd.new (by simp) rfl) ?h1 ?h63 ?hby ?hB ?_); go_loud (case h1 => intro u hu; simp [rtCells] at hu; rcases hu with rfl | rfl | rfl <;> rfl); go_loud (case h63 => unfold maxLen; omega); go_loud (case hby => omega); go_loud (case hB => have := L4.out.below.size; simp; omega); intro A2 c2 w5 hown2 hgrow2 hblk2 _; go_loud (have L5 := Lib.hid (LW.app (z := (routeR z.1, (A4, d4))) (L4.out.alloc _) hsz (.inl (O4.out.alloc _)) (by rfl) hgrow2 hown2)); clear hown2 hgrow2 hblk2)
        go_roundw
        case rel => exact ⟨k + 1, _, A2, c2, by omega, by omega, by have := HLk.out; simp; omega, by go_num, by simp, HM.out, L5.out⟩
        case measure => simp [intOf]; omega
      · by_cases hge : l0.length ≤ k
        · have hge' : (l0.length : Int) ≤ (k : Int) := by omega
          clear hlt hge
          go_wp2_with fail
          go_meet
          case rel => exact ⟨L, A, c, rfl, by omega, by rw [HLk.out]; exact MX.out, LX.out⟩
        · have hge' : (k : Int) < (l0.length : Int) := by omega
          have hge8 : (8 : Int) ≤ (k : Int) := by omega
          clear hlt hge
          go_wp2_with fail
          go_meet
          case rel => exact ⟨L, A, c, rfl, by omega, by rw [HLk.out]; exact MX.out, LX.out⟩
  case rest =>
  obtain ⟨L, A, c, rfl, hL8, hmap, hL⟩ := hcut
  have HOK : Hid (∀ z ∈ L, RtOk z.1) := Lib.hid (fun z hz => by
    have h1 : z.1 ∈ L.map (·.1) := List.mem_map.2 ⟨z, hz, rfl⟩
    rw [hmap] at h1
    obtain ⟨r, -, h2⟩ := List.mem_map.1 h1
    rw [← h2]; exact routeR_ok r)
  have HSH : Hid (∀ z ∈ L, z.1.path.length ≤ 1000000) := Lib.hid (fun z hz => by
    rcases (HOK.out z hz).kind with e | e | e
    · rw [(HOK.out z hz).k0 e]; simp [rtNone]
    · rw [((HOK.out z hz).k1 e).2.2]; simp
    · have := ((HOK.out z hz).k2 e).2.1; omega)
  have LX := Lib.hid hL
  clear hmap hL
  have BX := Lib.hid (since_trans B1.out LX.out.below)
  have hkb := pickV_in (c := n1) (n := (L.length : Int) + 1) (by omega)
  go_wp2_with fail
  refine (pick6_any n1 ((L.length : Int) + 1) _ I1.out (by omega) (by omega)).mono ?_
  rintro e w' ⟨rfl, rfl⟩
  generalize pickV n1 ((L.length : Int) + 1) = k at *
  obtain ⟨k, rfl⟩ : ∃ n : Nat, k = n := ⟨k.toNat, by omega⟩
  have hkL : k ≤ L.length := by omega
  clear hkb
  go_wp2_with fail
  refine (best_any L A c _ LX.out.rts (by omega) HSH.out).mono ?_
  rintro e w5 ⟨A5, c5, rfl, ho5, -, hb5⟩
  have L5 := Lib.hid ((LX.out.call hb5).alloc (.cells #[.int .i64 (bestR (L.map (·.1))).kind, .int .i64 (bestR (L.map (·.1))).cost, .slice A5 (bestR (L.map (·.1))).path.length c5] 41))
  have X5 := Lib.hid (Box.new (RtR.of_own ho5))
  have B5 := Lib.hid (since_alloc (since_trans BX.out hb5) (.cells #[.int .i64 (bestR (L.map (·.1))).kind, .int .i64 (bestR (L.map (·.1))).cost, .slice A5 (bestR (L.map (·.1))).path.length c5] 41))
  clear ho5 hb5
  unfold rtV
  go_upto_region 9 with fail
  generalize (w5.alloc (.cells #[.int .i64 (bestR (L.map (·.1))).kind, .int .i64 (bestR (L.map (·.1))).cost, .slice A5 (bestR (L.map (·.1))).path.length c5] 41)) = v5 at *
  generalize w5.heap.size = b5 at *
  go_cut [10] (fun s wx => ∃ (b : Nat) (A6 : Option Addr) (c6 : Nat), s = .pointer (some ⟨b, 0, none⟩) ∧ Box wx b (bestR (L.map (·.1))) A6 c6 ∧ Below v5.heap.size v5 wx)
  case first =>
    have ho1 : ∀ u ∈ (L.drop k).flatMap rtCells, u.oneCell' = true := by intro u hu; obtain ⟨z, _, hz⟩ := List.mem_flatMap.1 hu; simp [rtCells] at hz; rcases hz with rfl | rfl | rfl <;> rfl
    have ho2 : ∀ u ∈ L.flatMap rtCells, u.oneCell' = true := by intro u hu; obtain ⟨z, _, hz⟩ := List.mem_flatMap.1 hu; simp [rtCells] at hz; rcases hz with rfl | rfl | rfl <;> rfl
    have HO1 := Lib.hid ho1
    have HO2 := Lib.hid ho2
    have hlc := L5.out.row.2.1
    have HRD := Lib.hid (L5.out.dropRd (k := k) hkL)
    have hk0 : (0 : Int) ≤ (k : Int) := by omega
    have hu1 : (k : Int) ≤ (L.length : Int) := by omega
    have hu4 : (L.length : Int) ≤ (c : Int) := by omega
    have HLC := Lib.hid hlc
    clear ho1 ho2 hlc
    by_cases hkm : k < L.length
    · obtain ⟨g, off, cur, e, -⟩ := L5.out.row.2.2.2.2.2 (by have := HLC.out; omega)
      subst e
      have hck : ¬ c = k := by have := HLC.out; omega
      have hck2 : ¬ (c : Int) = (k : Int) := by omega
      have HR1 : Hid (Rd v5 v5.heap.size 3 (some ⟨g, off + k * 3, none⟩) (L.length - k) ((L.drop k).flatMap rtCells)) := Lib.hid (by
        have := HRD.out
        rw [if_neg hck] at this
        simp only [Option.map_some, Addr.add_lit] at this
        exact this)
      clear HRD
      (go_wp2_with (first | (at_builtin; go_loud (refine wpList_app _ rfl _ _ 44 rfl (v5.heap.size) 41 i3 _ 3 40 Tryd.underlying44 hi3 hz3 hs3 hb3 rfl (by decide) none 0 0 [] rfl (Own.nil _ _ _ _) _ (L.length - k) _ ((L.drop k).flatMap rtCells) rfl HR1.out HO1.out (by unfold maxLen; omega) (by omega) (Nat.le_refl _) ?_); intro A2 c2 w2 hown2 hgrow2 hblk2 _; (have hb2 : Below v5.heap.size v5 w2 := (Below.refl _ _).grown hgrow2 (Nat.le_refl _) (fun g hg => by cases hg)); (have L2 := Lib.hid (L5.out.call hb2)); (try simp only [Nat.zero_add, List.nil_append] at hown2 ⊢); (have O2 := Lib.hid hown2); (have B2 := Lib.hid hb2); clear hown2 hgrow2 hblk2 hb2) | (at_builtin; refine wpList_app _ rfl _ _ 44 rfl (v5.heap.size) 41 i3 _ 3 40 Tryd.underlying44 hi3 hz3 hs3 hb3 rfl (by decide) A2 (L.length - k) c2 ((L.drop k).flatMap rtCells) rfl O2.out _ L.length _ (L.flatMap rtCells) rfl L2.out.row.rd HO2.out (by unfold maxLen; omega) (by omega) B2.out.size ?_; intro A3 c3 w3 hown3 hgrow3 hblk3 _; (have hb3 : Below v5.heap.size v5 w3 := B2.out.grown hgrow3 B2.out.size (fun g hg => O2.out.from_ g hg)); (have CB := Lib.hid (turned_best (L5.out.call hb3) (by omega) HSH.out HOK.out k (by simp) hown3)); (have B3 := Lib.hid hb3); clear hown3 hgrow3 hblk3 hb3) | (go_at_call 26; refine CB.out.mono ?_; rintro e w6 ⟨A6, c6, rfl, ho6, hb6⟩; unfold rtV; (have B6 := Lib.hid (since_trans B3.out hb6)); (have O6 := Lib.hid (RtR.of_own ho6)); clear ho6 hb6)); go_meet; case rel => exact ⟨_, A6, c6, rfl, Box.new O6.out, since_alloc B6.out _⟩)
    · have HRZ : Hid (∀ A', Rd v5 v5.heap.size 3 A' (L.length - k) ((L.drop k).flatMap rtCells)) := Lib.hid (fun A' => by
        rw [List.drop_eq_nil_of_le (by omega), show L.length - k = 0 by omega]
        exact ⟨rfl, fun h => absurd h (by omega)⟩)
      clear HRD
      have hkL2 : L.length = k := by omega
      by_cases hck : c = k
      · by_cases hL0 : L = []
        · have hA : A = none := L5.out.za (by have := List.length_eq_zero_iff.2 hL0; omega)
          subst hA
          have CB : Hid (Calls Tryd.prog 26 #[.slice none 0 0] v5 fun e w' => ∃ A c, e = .returned (rtV (bestR (L.map (·.1))) A c) ∧ Own w' v5.heap.size 3 1 A (bestR (L.map (·.1))).path.length c (ints (bestR (L.map (·.1))).path) ∧ Below v5.heap.size v5 w') := Lib.hid (by
            rw [hL0]
            refine (best_any [] none 0 v5 ⟨⟨rfl, fun h => absurd h (by decide)⟩, fun z hz => by cases hz⟩ (by simp) (fun z hz => by cases hz)).mono ?_
            rintro e w' ⟨A', c', h1, h2, -, h3⟩
            exact ⟨A', c', h1, h2, h3⟩)
          subst hL0
          have hk00 : k = 0 := hkL2.symm
          subst hk00
          subst hck
          clear hkL2 hkm hu4 hu1
          have hz0 : (0 : Int) ≤ ((0 : Nat) : Int) := by decide
          go_wp2_with fail
          refine CB.out.mono ?_
          rintro e w6 ⟨A6, c6, rfl, ho6, hb6⟩
          unfold rtV
          have B6 := Lib.hid hb6
          have O6 := Lib.hid (RtR.of_own ho6)
          clear ho6 hb6
          go_wp2_with fail
          go_meet
          case rel => exact ⟨_, A6, c6, rfl, Box.new O6.out, since_alloc B6.out _⟩
        · obtain ⟨g, off, cur, e, -⟩ := L5.out.row.2.2.2.2.2 (by have := List.length_pos_iff.2 hL0; omega)
          subst e
          have HR1 := Lib.hid (HRZ.out (some ⟨g, off, none⟩))
          have HCK := Lib.hid hck
          have HKL2 := Lib.hid hkL2
          have hck2 : (c : Int) = (k : Int) := by omega
          clear hL0 hck hkL2
          (go_wp2_with (first | (at_builtin; go_loud (refine wpList_app _ rfl _ _ 44 rfl (v5.heap.size) 41 i3 _ 3 40 Tryd.underlying44 hi3 hz3 hs3 hb3 rfl (by decide) none 0 0 [] rfl (Own.nil _ _ _ _) _ (L.length - k) _ ((L.drop k).flatMap rtCells) rfl HR1.out HO1.out (by unfold maxLen; omega) (by omega) (Nat.le_refl _) ?_); intro A2 c2 w2 hown2 hgrow2 hblk2 _; (have hb2 : Below v5.heap.size v5 w2 := (Below.refl _ _).grown hgrow2 (Nat.le_refl _) (fun g hg => by cases hg)); (have L2 := Lib.hid (L5.out.call hb2)); (try simp only [Nat.zero_add, List.nil_append] at hown2 ⊢); (have O2 := Lib.hid hown2); (have B2 := Lib.hid hb2); clear hown2 hgrow2 hblk2 hb2) | (at_builtin; refine wpList_app _ rfl _ _ 44 rfl (v5.heap.size) 41 i3 _ 3 40 Tryd.underlying44 hi3 hz3 hs3 hb3 rfl (by decide) A2 (L.length - k) c2 ((L.drop k).flatMap rtCells) rfl O2.out _ L.length _ (L.flatMap rtCells) rfl L2.out.row.rd HO2.out (by unfold maxLen; omega) (by omega) B2.out.size ?_; intro A3 c3 w3 hown3 hgrow3 hblk3 _; (have hb3 : Below v5.heap.size v5 w3 := B2.out.grown hgrow3 B2.out.size (fun g hg => O2.out.from_ g hg)); (have CB := Lib.hid (turned_best (L5.out.call hb3) (by omega) HSH.out HOK.out k (by simp) hown3)); (have B3 := Lib.hid hb3); clear hown3 hgrow3 hblk3 hb3) | (go_at_call 26; refine CB.out.mono ?_; rintro e w6 ⟨A6, c6, rfl, ho6, hb6⟩; unfold rtV; (have B6 := Lib.hid (since_trans B3.out hb6)); (have O6 := Lib.hid (RtR.of_own ho6)); clear ho6 hb6)); go_meet; case rel => exact ⟨_, A6, c6, rfl, Box.new O6.out, since_alloc B6.out _⟩)
      · obtain ⟨g, off, cur, e, -⟩ := L5.out.row.2.2.2.2.2 (by have := HLC.out; omega)
        subst e
        have hck2 : ¬ (c : Int) = (k : Int) := by omega
        have HR1 := Lib.hid (HRZ.out (some ⟨g, off + k * 3, none⟩))
        have HKL2 := Lib.hid hkL2
        clear hkL2
        (go_wp2_with (first | (at_builtin; go_loud (refine wpList_app _ rfl _ _ 44 rfl (v5.heap.size) 41 i3 _ 3 40 Tryd.underlying44 hi3 hz3 hs3 hb3 rfl (by decide) none 0 0 [] rfl (Own.nil _ _ _ _) _ (L.length - k) _ ((L.drop k).flatMap rtCells) rfl HR1.out HO1.out (by unfold maxLen; omega) (by omega) (Nat.le_refl _) ?_); intro A2 c2 w2 hown2 hgrow2 hblk2 _; (have hb2 : Below v5.heap.size v5 w2 := (Below.refl _ _).grown hgrow2 (Nat.le_refl _) (fun g hg => by cases hg)); (have L2 := Lib.hid (L5.out.call hb2)); (try simp only [Nat.zero_add, List.nil_append] at hown2 ⊢); (have O2 := Lib.hid hown2); (have B2 := Lib.hid hb2); clear hown2 hgrow2 hblk2 hb2) | (at_builtin; refine wpList_app _ rfl _ _ 44 rfl (v5.heap.size) 41 i3 _ 3 40 Tryd.underlying44 hi3 hz3 hs3 hb3 rfl (by decide) A2 (L.length - k) c2 ((L.drop k).flatMap rtCells) rfl O2.out _ L.length _ (L.flatMap rtCells) rfl L2.out.row.rd HO2.out (by unfold maxLen; omega) (by omega) B2.out.size ?_; intro A3 c3 w3 hown3 hgrow3 hblk3 _; (have hb3 : Below v5.heap.size v5 w3 := B2.out.grown hgrow3 B2.out.size (fun g hg => O2.out.from_ g hg)); (have CB := Lib.hid (turned_best (L5.out.call hb3) (by omega) HSH.out HOK.out k (by simp) hown3)); (have B3 := Lib.hid hb3); clear hown3 hgrow3 hblk3 hb3) | (go_at_call 26; refine CB.out.mono ?_; rintro e w6 ⟨A6, c6, rfl, ho6, hb6⟩; unfold rtV; (have B6 := Lib.hid (since_trans B3.out hb6)); (have O6 := Lib.hid (RtR.of_own ho6)); clear ho6 hb6)); go_meet; case rel => exact ⟨_, A6, c6, rfl, Box.new O6.out, since_alloc B6.out _⟩)
  case rest =>
  obtain ⟨b6, A6, c6, rfl, hbx, hb6⟩ := hcut
  have Y6 := Lib.hid hbx
  have L6 := Lib.hid (L5.out.call hb6)
  have X6 := Lib.hid (X5.out.call hb6)
  have B6 := Lib.hid (since_trans B5.out hb6)
  clear hbx hb6 L5 X5 B5
  obtain ⟨v6, rfl⟩ : ∃ v, v = wc := ⟨_, rfl⟩
  rename_i hKl
  refine hKl _ _ ?_
  clear hKl
  go_upto_region 10 with fail
  generalize hq1 : bestR ((L.take k).map (·.1)) = q1
  generalize hq2 : bestR ((L.drop k).map (·.1)) = q2
  have HQ1 := Lib.hid hq1
  have HQ2 := Lib.hid hq2
  have hok1 : RtOk q1 := by rw [← hq1]; exact best_ok (fun x hx => by obtain ⟨z, hz, rfl⟩ := List.mem_map.1 hx; exact HOK.out z (List.mem_of_mem_take hz))
  have hok2 : RtOk q2 := by rw [← hq2]; exact best_ok (fun x hx => by obtain ⟨z, hz, rfl⟩ := List.mem_map.1 hx; exact HOK.out z (List.mem_of_mem_drop hz))
  have HP1 := Lib.hid (ok_path hok1)
  have HP2 := Lib.hid (ok_path hok2)
  clear hok1 hok2
  have CA : Hid (∀ wy, Below v6.heap.size v6 wy → Calls Tryd.prog 26 #[.slice A k c] wy fun e w' => ∃ A c, e = .returned (.agg #[.int .i64 q1.kind, .int .i64 q1.cost, .slice A q1.path.length c]) ∧ RtR w' w'.heap.size q1 A c ∧ Below v6.heap.size v6 w' ∧ Below wy.heap.size wy w') := Lib.hid (fun wy hb => by
    rw [← hq1]
    exact (part_take (L6.out.call hb) (by omega) HSH.out hkL).mono fun e w' ⟨A, c, h1, h2, h3⟩ => ⟨A, c, h1, h2, since_trans hb h3, h3⟩)
  have CT : Hid (∀ wy b A1 c1 A2 c2, Below v6.heap.size v6 wy → Rd wy wy.heap.size 3 (some ⟨b, 0, none⟩) 2 [.int .i64 q1.kind, .int .i64 q1.cost, .slice A1 q1.path.length c1, .int .i64 q2.kind, .int .i64 q2.cost, .slice A2 q2.path.length c2] → RtR wy wy.heap.size q1 A1 c1 → RtR wy wy.heap.size q2 A2 c2 → Calls Tryd.prog 26 #[.slice (some ⟨b, 0, none⟩) 2 2] wy fun e w' => ∃ A c, e = .returned (.agg #[.int .i64 (bestR [q1, q2]).kind, .int .i64 (bestR [q1, q2]).cost, .slice A (bestR [q1, q2]).path.length c]) ∧ OwnOr w' wy.heap.size A c (bestR [q1, q2]).path ∧ Below v6.heap.size v6 w' ∧ Below wy.heap.size wy w') := Lib.hid (fun wy b A1 c1 A2 c2 hb hr h1 h2 =>
    (part_two hr h1 h2 HP1.out HP2.out).mono fun e w' ⟨A, c, h1, h2, h3⟩ => ⟨A, c, h1, h2, since_trans hb h3, h3⟩)
  generalize hq3 : bestR [q1, q2] = q3 at CT
  have HQ3 := Lib.hid hq3
  clear hq3
  have CD0 : Hid (∀ wy A3 c3, Below v6.heap.size v6 wy → Rd v6 v6.heap.size 3 A3 (L.length - k) ((L.drop k).flatMap rtCells) → Calls Tryd.prog 26 #[.slice A3 (L.length - k) c3] wy fun e w' => ∃ A c, e = .returned (.agg #[.int .i64 q2.kind, .int .i64 q2.cost, .slice A q2.path.length c]) ∧ RtR w' w'.heap.size q2 A c ∧ Below v6.heap.size v6 w' ∧ Below wy.heap.size wy w') := Lib.hid (fun wy A3 c3 hb hr => by
    rw [← hq2]
    exact (part_drop (L6.out.call hb) (by omega) HSH.out ((hr.below hb (Nat.le_refl _)).more hb.size)).mono fun e w' ⟨A, c, h1, h2, h3⟩ => ⟨A, c, h1, h2, since_trans hb h3, h3⟩)
  clear hq1 hq2
  go_cut [11] (fun s wx => ∃ (b : Nat) (A' : Option Addr) (c' : Nat), s = .pointer (some ⟨b, 0, none⟩) ∧ Box wx b q3 A' c' ∧ Below v6.heap.size v6 wx)
  case first =>
    have hlc := L6.out.row.2.1
    have HRD := Lib.hid (L6.out.dropRd (k := k) hkL)
    have hk0 : (0 : Int) ≤ (k : Int) := by omega
    have hu1 : (k : Int) ≤ (L.length : Int) := by omega
    have hu4 : (L.length : Int) ≤ (c : Int) := by omega
    have hu5 : (k : Int) ≤ (c : Int) := by omega
    have hb0 : Below v6.heap.size v6 v6.drew := below_drew (Below.refl _ _)
    have HLC := Lib.hid hlc
    clear hlc
    by_cases hkm : k < L.length
    · obtain ⟨g, off, cur, e, -⟩ := L6.out.row.2.2.2.2.2 (by have := HLC.out; omega)
      subst e
      have hck : ¬ c = k := by have := HLC.out; omega
      have hck2 : ¬ (c : Int) = (k : Int) := by omega
      have CD : Hid (∀ wy c3, Below v6.heap.size v6 wy → _) := Lib.hid (fun wy c3 hb => CD0.out wy (some ⟨g, off + k * 3, none⟩) c3 hb (by
        have := HRD.out
        rw [if_neg hck] at this
        simp only [Option.map_some, Addr.add_lit] at this
        exact this))
      clear HRD CD0
      refine wp_region_held_drew (S := (fun _ => True)) (by kernel_rfl) (trivial) (fun hHeld0 => ?_)
      refine take_list (i := 0) (v := ?_) rfl (by kernel_rfl) (by kernel_rfl) (by kernel_rfl) (fun _ _ _ h => h) (Or.inl ⟨by rfl, ?_⟩) (by assumption) ?_
      rotate_left
      · (intro w hSw; (try dsimp only at hSw); go_simp; try (with_reducible rfl))
      try simp only [Act.put, List.setIfInBounds_toArray, List.set_cons_zero, List.set_cons_succ]
      refine take_list (i := 1) (v := ?_) rfl (by kernel_rfl) (by kernel_rfl) (by kernel_rfl) (fun _ _ _ h => h) (Or.inl ⟨by rfl, ?_⟩) (by assumption) ?_
      rotate_left
      · (intro w hSw; (try dsimp only at hSw); go_simp; try (with_reducible rfl))
      try simp only [Act.put, List.setIfInBounds_toArray, List.set_cons_zero, List.set_cons_succ]
      refine take_list (i := 2) (v := ?_) rfl (by kernel_rfl) (by kernel_rfl) (by kernel_rfl) (fun _ _ _ h => h) (Or.inl ⟨by rfl, ?_⟩) (by assumption) ?_
      rotate_left
      · (intro w hSw; (try dsimp only at hSw); go_simp; try (with_reducible rfl))
      try simp only [Act.put, List.setIfInBounds_toArray, List.set_cons_zero, List.set_cons_succ]
      refine take_list (i := 4) (v := ?_) rfl (by kernel_rfl) (by kernel_rfl) (by kernel_rfl) (fun _ _ _ h => h) (Or.inl ⟨by rfl, ?_⟩) (by assumption) ?_
      rotate_left
      · (intro w hSw; (try dsimp only at hSw); go_simp; try (with_reducible rfl))
      try simp only [Act.put, List.setIfInBounds_toArray, List.set_cons_zero, List.set_cons_succ]
      refine take_list (i := 5) (v := ?_) rfl (by kernel_rfl) (by kernel_rfl) (by kernel_rfl) (fun _ _ _ h => h) (Or.inl ⟨by rfl, ?_⟩) (by assumption) ?_
      rotate_left
      · (intro w hSw; (try dsimp only at hSw); go_simp; try (with_reducible rfl))
      try simp only [Act.put, List.setIfInBounds_toArray, List.set_cons_zero, List.set_cons_succ]
      refine take_list (i := 6) (v := ?_) rfl (by kernel_rfl) (by kernel_rfl) (by kernel_rfl) (fun _ _ _ h => h) (Or.inl ⟨by rfl, ?_⟩) (by assumption) ?_
      rotate_left
      · (intro w hSw; (try dsimp only at hSw); go_simp; try (with_reducible rfl))
      try simp only [Act.put, List.setIfInBounds_toArray, List.set_cons_zero, List.set_cons_succ]
      refine wpAnyH_ready (rs := [3, 10]) (by kernel_rfl) (by simp) ?_
      refine cons_list rfl (fun K hK => ?_) (cons_list rfl (fun K hK => ?_) AllReadyH.nil)
      ·
        go_simp
        (go_at_call 26; refine (CA.out _ (by repeat (first | assumption | exact Below.refl _ _ | (refine below_drew ?_) | (refine since_alloc ?_ _)))).mono ?_; rintro e wm ⟨Am, cm, rfl, hrm, hvm, hbm⟩; have hsm := hbm.size; have hsv := hvm.size)
        refine hK.out _ _ (trivial) (fun hHeld1 => ?_)
        clear hK K hHeld0
        try simp only [Act.put, List.setIfInBounds_toArray, List.set_cons_zero, List.set_cons_succ]
        refine wpAnyH_ready (rs := [7, 10]) (by kernel_rfl) (by simp) ?_
        refine cons_list rfl (fun K hK => ?_) (cons_list rfl (fun K hK => ?_) AllReadyH.nil)
        ·
          go_simp
          (go_at_call 26; refine (CD.out _ _ (by repeat (first | assumption | exact Below.refl _ _ | (refine below_drew ?_) | (refine since_alloc ?_ _)))).mono ?_; rintro e wn ⟨An, cn, rfl, hrn, hvn, hbn⟩; have hrm2 := RtR.call hrm (by first | exact hbn | exact since_trans (since_alloc (Below.refl _ _) _) hbn); have hsn := hbn.size; have hsvn := hvn.size)
          refine hK.out _ _ (trivial) (fun hHeld2 => ?_)
          clear hK K hHeld1
          try simp only [Act.put, List.setIfInBounds_toArray, List.set_cons_zero, List.set_cons_succ]
          refine wpAnyH_ready (rs := [8, 10]) (by kernel_rfl) (by simp) ?_
          refine cons_list rfl (fun K hK => ?_) (cons_list rfl (fun K hK => ?_) AllReadyH.nil)
          ·
            go_simp
            refine hK.out _ _ (trivial) (fun hHeld3 => ?_)
            clear hK K hHeld2
            try simp only [Act.put, List.setIfInBounds_toArray, List.set_cons_zero, List.set_cons_succ]
            refine wpAnyH_ready (rs := [9, 10]) (by kernel_rfl) (by simp) ?_
            refine cons_list rfl (fun K hK => ?_) (cons_list rfl (fun K hK => ?_) AllReadyH.nil)
            ·
              go_simp
              (go_at_call 26; refine (CT.out _ _ Am cm An cn (by repeat (first | assumption | exact Below.refl _ _ | (refine below_drew ?_) | (refine since_alloc ?_ _))) (by first | exact Rd.new (by simp) rfl | exact ((Rd.new (by simp) rfl).alloc (Nat.le_refl _) _).more (by simp)) (by first | exact hrm2.call ((Below.refl _ _).alloc (Nat.le_refl _) _) | exact hrm2.call (since_alloc ((Below.refl _ _).alloc (Nat.le_refl _) _) _)) (by first | exact hrn.call ((Below.refl _ _).alloc (Nat.le_refl _) _) | exact hrn.call (since_alloc ((Below.refl _ _).alloc (Nat.le_refl _) _) _))).mono ?_; rintro e wp ⟨Ap, cp, rfl, hop, hvp, hbp⟩; have hsp := hbp.size)
              refine hK.out _ _ (trivial) (fun hHeld4 => ?_)
              clear hK K hHeld3
              try simp only [Act.put, List.setIfInBounds_toArray, List.set_cons_zero, List.set_cons_succ]
              refine wpAnyH_ready (rs := [10]) (by kernel_rfl) (by simp) ?_
              refine cons_list rfl (fun K hK => ?_) AllReadyH.nil
              go_simp
              refine hK.out _ _ (trivial) (fun hHeld5 => ?_)
              clear hK K hHeld4
              try simp only [Act.put, List.setIfInBounds_toArray, List.set_cons_zero, List.set_cons_succ]
              refine wpAnyH_ready (rs := [11]) (by kernel_rfl) (by simp) ?_
              refine cons_list rfl (fun K hK => ?_) AllReadyH.nil
              (first | (have kz : wp.heap[wn.heap.size + 1]? = some (.cells #[.int .i64 0, .int .i64 0, .slice none 0 0] 41 (0, 0)) := (by have kk := kept_ab hbp; rw [World.size_alloc] at kk; exact kk); have kr0 := cell_of_row wp _ 0 _ _ _ kz; have kr1 := cell_of_row wp _ 1 _ _ _ kz; have kr2 := cell_of_row wp _ 2 _ _ _ kz; have kf0 := frozen_of_row wp _ 0 _ _ kz; have kf1 := frozen_of_row wp _ 1 _ _ kz; have kf2 := frozen_of_row wp _ 2 _ _ kz) | (have kz : wp.heap[wn.heap.size]? = some (.cells #[.int .i64 0, .int .i64 0, .slice none 0 0] 41 (0, 0)) := kept_ab (since_trans (since_alloc (Below.refl _ _) _) hbp); have kr0 := cell_of_row wp _ 0 _ _ _ kz; have kr1 := cell_of_row wp _ 1 _ _ _ kz; have kr2 := cell_of_row wp _ 2 _ _ _ kz; have kf0 := frozen_of_row wp _ 0 _ _ kz; have kf1 := frozen_of_row wp _ 1 _ _ kz; have kf2 := frozen_of_row wp _ 2 _ _ kz) | (have kz : wp.heap[wm.heap.size]? = some (.cells #[.int .i64 0, .int .i64 0, .slice none 0 0] 41 (0, 0)) := kept_ab (since_trans hbn (since_trans (since_alloc (Below.refl _ _) _) hbp)); have kr0 := cell_of_row wp _ 0 _ _ _ kz; have kr1 := cell_of_row wp _ 1 _ _ _ kz; have kr2 := cell_of_row wp _ 2 _ _ _ kz; have kf0 := frozen_of_row wp _ 0 _ _ kz; have kf1 := frozen_of_row wp _ 1 _ _ kz; have kf2 := frozen_of_row wp _ 2 _ _ kz) | (have kz : wp.heap[v6.heap.size]? = some (.cells #[.int .i64 0, .int .i64 0, .slice none 0 0] 41 (0, 0)) := kept_ab_d (since_trans hbm (since_trans hbn (since_trans (since_alloc (Below.refl _ _) _) hbp))); have kr0 := cell_of_row wp _ 0 _ _ _ kz; have kr1 := cell_of_row wp _ 1 _ _ _ kz; have kr2 := cell_of_row wp _ 2 _ _ _ kz; have kf0 := frozen_of_row wp _ 0 _ _ kz; have kf1 := frozen_of_row wp _ 1 _ _ kz; have kf2 := frozen_of_row wp _ 2 _ _ kz) | skip)
              go_simp
              refine hK.out _ _ (trivial) (fun hHeld6 => ?_)
              clear hK K hHeld5
              try simp only [Act.put, List.setIfInBounds_toArray, List.set_cons_zero, List.set_cons_succ]
              refine wpAnyH_done (by kernel_rfl) ?_ _
              clear hHeld6
              go_wp2
              go_meet
              case rel => (refine ⟨_, Ap, cp, rfl, ?_, ?_⟩; (first | exact new_ab hop | exact put_ab kz hop (by simp only [World.size_alloc, World.size_drew] at *; omega)); (simp only [World.size_alloc, World.size_drew] at hsm hsn hsp; (repeat (first | assumption | (refine below_drew ?_) | (refine since_alloc ?_ _) | (refine Below.setCell ?_ (by dsimp only; omega) _)))))
            ·
              go_simp
              refine hK.out _ _ (trivial) (fun hHeld4 => ?_)
              clear hK K hHeld3
              try simp only [Act.put, List.setIfInBounds_toArray, List.set_cons_zero, List.set_cons_succ]
              refine wpAnyH_ready (rs := [9]) (by kernel_rfl) (by simp) ?_
              refine cons_list rfl (fun K hK => ?_) AllReadyH.nil
              go_simp
              (go_at_call 26; refine (CT.out _ _ Am cm An cn (by repeat (first | assumption | exact Below.refl _ _ | (refine below_drew ?_) | (refine since_alloc ?_ _))) (by first | exact Rd.new (by simp) rfl | exact ((Rd.new (by simp) rfl).alloc (Nat.le_refl _) _).more (by simp)) (by first | exact hrm2.call ((Below.refl _ _).alloc (Nat.le_refl _) _) | exact hrm2.call (since_alloc ((Below.refl _ _).alloc (Nat.le_refl _) _) _)) (by first | exact hrn.call ((Below.refl _ _).alloc (Nat.le_refl _) _) | exact hrn.call (since_alloc ((Below.refl _ _).alloc (Nat.le_refl _) _) _))).mono ?_; rintro e wp ⟨Ap, cp, rfl, hop, hvp, hbp⟩; have hsp := hbp.size)
              refine hK.out _ _ (trivial) (fun hHeld5 => ?_)
              clear hK K hHeld4
              try simp only [Act.put, List.setIfInBounds_toArray, List.set_cons_zero, List.set_cons_succ]
              refine wpAnyH_ready (rs := [11]) (by kernel_rfl) (by simp) ?_
              refine cons_list rfl (fun K hK => ?_) AllReadyH.nil
              (first | (have kz : wp.heap[wn.heap.size + 1]? = some (.cells #[.int .i64 0, .int .i64 0, .slice none 0 0] 41 (0, 0)) := (by have kk := kept_ab hbp; rw [World.size_alloc] at kk; exact kk); have kr0 := cell_of_row wp _ 0 _ _ _ kz; have kr1 := cell_of_row wp _ 1 _ _ _ kz; have kr2 := cell_of_row wp _ 2 _ _ _ kz; have kf0 := frozen_of_row wp _ 0 _ _ kz; have kf1 := frozen_of_row wp _ 1 _ _ kz; have kf2 := frozen_of_row wp _ 2 _ _ kz) | (have kz : wp.heap[wn.heap.size]? = some (.cells #[.int .i64 0, .int .i64 0, .slice none 0 0] 41 (0, 0)) := kept_ab (since_trans (since_alloc (Below.refl _ _) _) hbp); have kr0 := cell_of_row wp _ 0 _ _ _ kz; have kr1 := cell_of_row wp _ 1 _ _ _ kz; have kr2 := cell_of_row wp _ 2 _ _ _ kz; have kf0 := frozen_of_row wp _ 0 _ _ kz; have kf1 := frozen_of_row wp _ 1 _ _ kz; have kf2 := frozen_of_row wp _ 2 _ _ kz) | (have kz : wp.heap[wm.heap.size]? = some (.cells #[.int .i64 0, .int .i64 0, .slice none 0 0] 41 (0, 0)) := kept_ab (since_trans hbn (since_trans (since_alloc (Below.refl _ _) _) hbp)); have kr0 := cell_of_row wp _ 0 _ _ _ kz; have kr1 := cell_of_row wp _ 1 _ _ _ kz; have kr2 := cell_of_row wp _ 2 _ _ _ kz; have kf0 := frozen_of_row wp _ 0 _ _ kz; have kf1 := frozen_of_row wp _ 1 _ _ kz; have kf2 := frozen_of_row wp _ 2 _ _ kz) | (have kz : wp.heap[v6.heap.size]? = some (.cells #[.int .i64 0, .int .i64 0, .slice none 0 0] 41 (0, 0)) := kept_ab_d (since_trans hbm (since_trans hbn (since_trans (since_alloc (Below.refl _ _) _) hbp))); have kr0 := cell_of_row wp _ 0 _ _ _ kz; have kr1 := cell_of_row wp _ 1 _ _ _ kz; have kr2 := cell_of_row wp _ 2 _ _ _ kz; have kf0 := frozen_of_row wp _ 0 _ _ kz; have kf1 := frozen_of_row wp _ 1 _ _ kz; have kf2 := frozen_of_row wp _ 2 _ _ kz) | skip)
              go_simp
              refine hK.out _ _ (trivial) (fun hHeld6 => ?_)
              clear hK K hHeld5
              try simp only [Act.put, List.setIfInBounds_toArray, List.set_cons_zero, List.set_cons_succ]
              refine wpAnyH_done (by kernel_rfl) ?_ _
              clear hHeld6
              go_wp2
              go_meet
              case rel => (refine ⟨_, Ap, cp, rfl, ?_, ?_⟩; (first | exact new_ab hop | exact put_ab kz hop (by simp only [World.size_alloc, World.size_drew] at *; omega)); (simp only [World.size_alloc, World.size_drew] at hsm hsn hsp; (repeat (first | assumption | (refine below_drew ?_) | (refine since_alloc ?_ _) | (refine Below.setCell ?_ (by dsimp only; omega) _)))))
          ·
            go_simp
            refine hK.out _ _ (trivial) (fun hHeld3 => ?_)
            clear hK K hHeld2
            try simp only [Act.put, List.setIfInBounds_toArray, List.set_cons_zero, List.set_cons_succ]
            refine wpAnyH_ready (rs := [8]) (by kernel_rfl) (by simp) ?_
            refine cons_list rfl (fun K hK => ?_) AllReadyH.nil
            go_simp
            refine hK.out _ _ (trivial) (fun hHeld4 => ?_)
            clear hK K hHeld3
            try simp only [Act.put, List.setIfInBounds_toArray, List.set_cons_zero, List.set_cons_succ]
            refine wpAnyH_ready (rs := [9]) (by kernel_rfl) (by simp) ?_
            refine cons_list rfl (fun K hK => ?_) AllReadyH.nil
            go_simp
            (go_at_call 26; refine (CT.out _ _ Am cm An cn (by repeat (first | assumption | exact Below.refl _ _ | (refine below_drew ?_) | (refine since_alloc ?_ _))) (by first | exact Rd.new (by simp) rfl | exact ((Rd.new (by simp) rfl).alloc (Nat.le_refl _) _).more (by simp)) (by first | exact hrm2.call ((Below.refl _ _).alloc (Nat.le_refl _) _) | exact hrm2.call (since_alloc ((Below.refl _ _).alloc (Nat.le_refl _) _) _)) (by first | exact hrn.call ((Below.refl _ _).alloc (Nat.le_refl _) _) | exact hrn.call (since_alloc ((Below.refl _ _).alloc (Nat.le_refl _) _) _))).mono ?_; rintro e wp ⟨Ap, cp, rfl, hop, hvp, hbp⟩; have hsp := hbp.size)
            refine hK.out _ _ (trivial) (fun hHeld5 => ?_)
            clear hK K hHeld4
            try simp only [Act.put, List.setIfInBounds_toArray, List.set_cons_zero, List.set_cons_succ]
            refine wpAnyH_ready (rs := [11]) (by kernel_rfl) (by simp) ?_
            refine cons_list rfl (fun K hK => ?_) AllReadyH.nil
            (first | (have kz : wp.heap[wn.heap.size + 1]? = some (.cells #[.int .i64 0, .int .i64 0, .slice none 0 0] 41 (0, 0)) := (by have kk := kept_ab hbp; rw [World.size_alloc] at kk; exact kk); have kr0 := cell_of_row wp _ 0 _ _ _ kz; have kr1 := cell_of_row wp _ 1 _ _ _ kz; have kr2 := cell_of_row wp _ 2 _ _ _ kz; have kf0 := frozen_of_row wp _ 0 _ _ kz; have kf1 := frozen_of_row wp _ 1 _ _ kz; have kf2 := frozen_of_row wp _ 2 _ _ kz) | (have kz : wp.heap[wn.heap.size]? = some (.cells #[.int .i64 0, .int .i64 0, .slice none 0 0] 41 (0, 0)) := kept_ab (since_trans (since_alloc (Below.refl _ _) _) hbp); have kr0 := cell_of_row wp _ 0 _ _ _ kz; have kr1 := cell_of_row wp _ 1 _ _ _ kz; have kr2 := cell_of_row wp _ 2 _ _ _ kz; have kf0 := frozen_of_row wp _ 0 _ _ kz; have kf1 := frozen_of_row wp _ 1 _ _ kz; have kf2 := frozen_of_row wp _ 2 _ _ kz) | (have kz : wp.heap[wm.heap.size]? = some (.cells #[.int .i64 0, .int .i64 0, .slice none 0 0] 41 (0, 0)) := kept_ab (since_trans hbn (since_trans (since_alloc (Below.refl _ _) _) hbp)); have kr0 := cell_of_row wp _ 0 _ _ _ kz; have kr1 := cell_of_row wp _ 1 _ _ _ kz; have kr2 := cell_of_row wp _ 2 _ _ _ kz; have kf0 := frozen_of_row wp _ 0 _ _ kz; have kf1 := frozen_of_row wp _ 1 _ _ kz; have kf2 := frozen_of_row wp _ 2 _ _ kz) | (have kz : wp.heap[v6.heap.size]? = some (.cells #[.int .i64 0, .int .i64 0, .slice none 0 0] 41 (0, 0)) := kept_ab_d (since_trans hbm (since_trans hbn (since_trans (since_alloc (Below.refl _ _) _) hbp))); have kr0 := cell_of_row wp _ 0 _ _ _ kz; have kr1 := cell_of_row wp _ 1 _ _ _ kz; have kr2 := cell_of_row wp _ 2 _ _ _ kz; have kf0 := frozen_of_row wp _ 0 _ _ kz; have kf1 := frozen_of_row wp _ 1 _ _ kz; have kf2 := frozen_of_row wp _ 2 _ _ kz) | skip)
            go_simp
            refine hK.out _ _ (trivial) (fun hHeld6 => ?_)
            clear hK K hHeld5
            try simp only [Act.put, List.setIfInBounds_toArray, List.set_cons_zero, List.set_cons_succ]
            refine wpAnyH_done (by kernel_rfl) ?_ _
            clear hHeld6
            go_wp2
            go_meet
            case rel => (refine ⟨_, Ap, cp, rfl, ?_, ?_⟩; (first | exact new_ab hop | exact put_ab kz hop (by simp only [World.size_alloc, World.size_drew] at *; omega)); (simp only [World.size_alloc, World.size_drew] at hsm hsn hsp; (repeat (first | assumption | (refine below_drew ?_) | (refine since_alloc ?_ _) | (refine Below.setCell ?_ (by dsimp only; omega) _)))))
        ·
          go_simp
          refine hK.out _ _ (trivial) (fun hHeld2 => ?_)
          clear hK K hHeld1
          try simp only [Act.put, List.setIfInBounds_toArray, List.set_cons_zero, List.set_cons_succ]
          refine wpAnyH_ready (rs := [7]) (by kernel_rfl) (by simp) ?_
          refine cons_list rfl (fun K hK => ?_) AllReadyH.nil
          go_simp
          (go_at_call 26; refine (CD.out _ _ (by repeat (first | assumption | exact Below.refl _ _ | (refine below_drew ?_) | (refine since_alloc ?_ _)))).mono ?_; rintro e wn ⟨An, cn, rfl, hrn, hvn, hbn⟩; have hrm2 := RtR.call hrm (by first | exact hbn | exact since_trans (since_alloc (Below.refl _ _) _) hbn); have hsn := hbn.size; have hsvn := hvn.size)
          refine hK.out _ _ (trivial) (fun hHeld3 => ?_)
          clear hK K hHeld2
          try simp only [Act.put, List.setIfInBounds_toArray, List.set_cons_zero, List.set_cons_succ]
          refine wpAnyH_ready (rs := [8]) (by kernel_rfl) (by simp) ?_
          refine cons_list rfl (fun K hK => ?_) AllReadyH.nil
          go_simp
          refine hK.out _ _ (trivial) (fun hHeld4 => ?_)
          clear hK K hHeld3
          try simp only [Act.put, List.setIfInBounds_toArray, List.set_cons_zero, List.set_cons_succ]
          refine wpAnyH_ready (rs := [9]) (by kernel_rfl) (by simp) ?_
          refine cons_list rfl (fun K hK => ?_) AllReadyH.nil
          go_simp
          (go_at_call 26; refine (CT.out _ _ Am cm An cn (by repeat (first | assumption | exact Below.refl _ _ | (refine below_drew ?_) | (refine since_alloc ?_ _))) (by first | exact Rd.new (by simp) rfl | exact ((Rd.new (by simp) rfl).alloc (Nat.le_refl _) _).more (by simp)) (by first | exact hrm2.call ((Below.refl _ _).alloc (Nat.le_refl _) _) | exact hrm2.call (since_alloc ((Below.refl _ _).alloc (Nat.le_refl _) _) _)) (by first | exact hrn.call ((Below.refl _ _).alloc (Nat.le_refl _) _) | exact hrn.call (since_alloc ((Below.refl _ _).alloc (Nat.le_refl _) _) _))).mono ?_; rintro e wp ⟨Ap, cp, rfl, hop, hvp, hbp⟩; have hsp := hbp.size)
          refine hK.out _ _ (trivial) (fun hHeld5 => ?_)
          clear hK K hHeld4
          try simp only [Act.put, List.setIfInBounds_toArray, List.set_cons_zero, List.set_cons_succ]
          refine wpAnyH_ready (rs := [11]) (by kernel_rfl) (by simp) ?_
          refine cons_list rfl (fun K hK => ?_) AllReadyH.nil
          (first | (have kz : wp.heap[wn.heap.size + 1]? = some (.cells #[.int .i64 0, .int .i64 0, .slice none 0 0] 41 (0, 0)) := (by have kk := kept_ab hbp; rw [World.size_alloc] at kk; exact kk); have kr0 := cell_of_row wp _ 0 _ _ _ kz; have kr1 := cell_of_row wp _ 1 _ _ _ kz; have kr2 := cell_of_row wp _ 2 _ _ _ kz; have kf0 := frozen_of_row wp _ 0 _ _ kz; have kf1 := frozen_of_row wp _ 1 _ _ kz; have kf2 := frozen_of_row wp _ 2 _ _ kz) | (have kz : wp.heap[wn.heap.size]? = some (.cells #[.int .i64 0, .int .i64 0, .slice none 0 0] 41 (0, 0)) := kept_ab (since_trans (since_alloc (Below.refl _ _) _) hbp); have kr0 := cell_of_row wp _ 0 _ _ _ kz; have kr1 := cell_of_row wp _ 1 _ _ _ kz; have kr2 := cell_of_row wp _ 2 _ _ _ kz; have kf0 := frozen_of_row wp _ 0 _ _ kz; have kf1 := frozen_of_row wp _ 1 _ _ kz; have kf2 := frozen_of_row wp _ 2 _ _ kz) | (have kz : wp.heap[wm.heap.size]? = some (.cells #[.int .i64 0, .int .i64 0, .slice none 0 0] 41 (0, 0)) := kept_ab (since_trans hbn (since_trans (since_alloc (Below.refl _ _) _) hbp)); have kr0 := cell_of_row wp _ 0 _ _ _ kz; have kr1 := cell_of_row wp _ 1 _ _ _ kz; have kr2 := cell_of_row wp _ 2 _ _ _ kz; have kf0 := frozen_of_row wp _ 0 _ _ kz; have kf1 := frozen_of_row wp _ 1 _ _ kz; have kf2 := frozen_of_row wp _ 2 _ _ kz) | (have kz : wp.heap[v6.heap.size]? = some (.cells #[.int .i64 0, .int .i64 0, .slice none 0 0] 41 (0, 0)) := kept_ab_d (since_trans hbm (since_trans hbn (since_trans (since_alloc (Below.refl _ _) _) hbp))); have kr0 := cell_of_row wp _ 0 _ _ _ kz; have kr1 := cell_of_row wp _ 1 _ _ _ kz; have kr2 := cell_of_row wp _ 2 _ _ _ kz; have kf0 := frozen_of_row wp _ 0 _ _ kz; have kf1 := frozen_of_row wp _ 1 _ _ kz; have kf2 := frozen_of_row wp _ 2 _ _ kz) | skip)
          go_simp
          refine hK.out _ _ (trivial) (fun hHeld6 => ?_)
          clear hK K hHeld5
          try simp only [Act.put, List.setIfInBounds_toArray, List.set_cons_zero, List.set_cons_succ]
          refine wpAnyH_done (by kernel_rfl) ?_ _
          clear hHeld6
          go_wp2
          go_meet
          case rel => (refine ⟨_, Ap, cp, rfl, ?_, ?_⟩; (first | exact new_ab hop | exact put_ab kz hop (by simp only [World.size_alloc, World.size_drew] at *; omega)); (simp only [World.size_alloc, World.size_drew] at hsm hsn hsp; (repeat (first | assumption | (refine below_drew ?_) | (refine since_alloc ?_ _) | (refine Below.setCell ?_ (by dsimp only; omega) _)))))
      ·
        go_simp
        refine hK.out _ _ (trivial) (fun hHeld1 => ?_)
        clear hK K hHeld0
        try simp only [Act.put, List.setIfInBounds_toArray, List.set_cons_zero, List.set_cons_succ]
        refine wpAnyH_ready (rs := [3]) (by kernel_rfl) (by simp) ?_
        refine cons_list rfl (fun K hK => ?_) AllReadyH.nil
        go_simp
        (go_at_call 26; refine (CA.out _ (by repeat (first | assumption | exact Below.refl _ _ | (refine below_drew ?_) | (refine since_alloc ?_ _)))).mono ?_; rintro e wm ⟨Am, cm, rfl, hrm, hvm, hbm⟩; have hsm := hbm.size; have hsv := hvm.size)
        refine hK.out _ _ (trivial) (fun hHeld2 => ?_)
        clear hK K hHeld1
        try simp only [Act.put, List.setIfInBounds_toArray, List.set_cons_zero, List.set_cons_succ]
        refine wpAnyH_ready (rs := [7]) (by kernel_rfl) (by simp) ?_
        refine cons_list rfl (fun K hK => ?_) AllReadyH.nil
        go_simp
        (go_at_call 26; refine (CD.out _ _ (by repeat (first | assumption | exact Below.refl _ _ | (refine below_drew ?_) | (refine since_alloc ?_ _)))).mono ?_; rintro e wn ⟨An, cn, rfl, hrn, hvn, hbn⟩; have hrm2 := RtR.call hrm (by first | exact hbn | exact since_trans (since_alloc (Below.refl _ _) _) hbn); have hsn := hbn.size; have hsvn := hvn.size)
        refine hK.out _ _ (trivial) (fun hHeld3 => ?_)
        clear hK K hHeld2
        try simp only [Act.put, List.setIfInBounds_toArray, List.set_cons_zero, List.set_cons_succ]
        refine wpAnyH_ready (rs := [8]) (by kernel_rfl) (by simp) ?_
        refine cons_list rfl (fun K hK => ?_) AllReadyH.nil
        go_simp
        refine hK.out _ _ (trivial) (fun hHeld4 => ?_)
        clear hK K hHeld3
        try simp only [Act.put, List.setIfInBounds_toArray, List.set_cons_zero, List.set_cons_succ]
        refine wpAnyH_ready (rs := [9]) (by kernel_rfl) (by simp) ?_
        refine cons_list rfl (fun K hK => ?_) AllReadyH.nil
        go_simp
        (go_at_call 26; refine (CT.out _ _ Am cm An cn (by repeat (first | assumption | exact Below.refl _ _ | (refine below_drew ?_) | (refine since_alloc ?_ _))) (by first | exact Rd.new (by simp) rfl | exact ((Rd.new (by simp) rfl).alloc (Nat.le_refl _) _).more (by simp)) (by first | exact hrm2.call ((Below.refl _ _).alloc (Nat.le_refl _) _) | exact hrm2.call (since_alloc ((Below.refl _ _).alloc (Nat.le_refl _) _) _)) (by first | exact hrn.call ((Below.refl _ _).alloc (Nat.le_refl _) _) | exact hrn.call (since_alloc ((Below.refl _ _).alloc (Nat.le_refl _) _) _))).mono ?_; rintro e wp ⟨Ap, cp, rfl, hop, hvp, hbp⟩; have hsp := hbp.size)
        refine hK.out _ _ (trivial) (fun hHeld5 => ?_)
        clear hK K hHeld4
        try simp only [Act.put, List.setIfInBounds_toArray, List.set_cons_zero, List.set_cons_succ]
        refine wpAnyH_ready (rs := [11]) (by kernel_rfl) (by simp) ?_
        refine cons_list rfl (fun K hK => ?_) AllReadyH.nil
        (first | (have kz : wp.heap[wn.heap.size + 1]? = some (.cells #[.int .i64 0, .int .i64 0, .slice none 0 0] 41 (0, 0)) := (by have kk := kept_ab hbp; rw [World.size_alloc] at kk; exact kk); have kr0 := cell_of_row wp _ 0 _ _ _ kz; have kr1 := cell_of_row wp _ 1 _ _ _ kz; have kr2 := cell_of_row wp _ 2 _ _ _ kz; have kf0 := frozen_of_row wp _ 0 _ _ kz; have kf1 := frozen_of_row wp _ 1 _ _ kz; have kf2 := frozen_of_row wp _ 2 _ _ kz) | (have kz : wp.heap[wn.heap.size]? = some (.cells #[.int .i64 0, .int .i64 0, .slice none 0 0] 41 (0, 0)) := kept_ab (since_trans (since_alloc (Below.refl _ _) _) hbp); have kr0 := cell_of_row wp _ 0 _ _ _ kz; have kr1 := cell_of_row wp _ 1 _ _ _ kz; have kr2 := cell_of_row wp _ 2 _ _ _ kz; have kf0 := frozen_of_row wp _ 0 _ _ kz; have kf1 := frozen_of_row wp _ 1 _ _ kz; have kf2 := frozen_of_row wp _ 2 _ _ kz) | (have kz : wp.heap[wm.heap.size]? = some (.cells #[.int .i64 0, .int .i64 0, .slice none 0 0] 41 (0, 0)) := kept_ab (since_trans hbn (since_trans (since_alloc (Below.refl _ _) _) hbp)); have kr0 := cell_of_row wp _ 0 _ _ _ kz; have kr1 := cell_of_row wp _ 1 _ _ _ kz; have kr2 := cell_of_row wp _ 2 _ _ _ kz; have kf0 := frozen_of_row wp _ 0 _ _ kz; have kf1 := frozen_of_row wp _ 1 _ _ kz; have kf2 := frozen_of_row wp _ 2 _ _ kz) | (have kz : wp.heap[v6.heap.size]? = some (.cells #[.int .i64 0, .int .i64 0, .slice none 0 0] 41 (0, 0)) := kept_ab_d (since_trans hbm (since_trans hbn (since_trans (since_alloc (Below.refl _ _) _) hbp))); have kr0 := cell_of_row wp _ 0 _ _ _ kz; have kr1 := cell_of_row wp _ 1 _ _ _ kz; have kr2 := cell_of_row wp _ 2 _ _ _ kz; have kf0 := frozen_of_row wp _ 0 _ _ kz; have kf1 := frozen_of_row wp _ 1 _ _ kz; have kf2 := frozen_of_row wp _ 2 _ _ kz) | skip)
        go_simp
        refine hK.out _ _ (trivial) (fun hHeld6 => ?_)
        clear hK K hHeld5
        try simp only [Act.put, List.setIfInBounds_toArray, List.set_cons_zero, List.set_cons_succ]
        refine wpAnyH_done (by kernel_rfl) ?_ _
        clear hHeld6
        go_wp2
        go_meet
        case rel => (refine ⟨_, Ap, cp, rfl, ?_, ?_⟩; (first | exact new_ab hop | exact put_ab kz hop (by simp only [World.size_alloc, World.size_drew] at *; omega)); (simp only [World.size_alloc, World.size_drew] at hsm hsn hsp; (repeat (first | assumption | (refine below_drew ?_) | (refine since_alloc ?_ _) | (refine Below.setCell ?_ (by dsimp only; omega) _)))))
    · have HRZ : Hid (∀ A', Rd v6 v6.heap.size 3 A' (L.length - k) ((L.drop k).flatMap rtCells)) := Lib.hid (fun A' => by
        rw [List.drop_eq_nil_of_le (by omega), show L.length - k = 0 by omega]
        exact ⟨rfl, fun h => absurd h (by omega)⟩)
      clear HRD
      have hkL2 : L.length = k := by omega
      by_cases hck : c = k
      · by_cases hL0 : L = []
        · have hA : A = none := L6.out.za (by have := List.length_eq_zero_iff.2 hL0; omega)
          subst hA
          have CD : Hid (∀ wy c3, Below v6.heap.size v6 wy → _) := Lib.hid (fun wy c3 hb => CD0.out wy none c3 hb (HRZ.out none))
          subst hL0
          have hk00 : k = 0 := hkL2.symm
          subst hk00
          subst hck
          clear hkL2 hkm hu4 hu1 hu5 CD0 HRZ
          refine wp_region_held_drew (S := (fun _ => True)) (by kernel_rfl) (trivial) (fun hHeld0 => ?_)
          refine take_list (i := 0) (v := ?_) rfl (by kernel_rfl) (by kernel_rfl) (by kernel_rfl) (fun _ _ _ h => h) (Or.inl ⟨by rfl, ?_⟩) (by assumption) ?_
          rotate_left
          · (intro w hSw; (try dsimp only at hSw); go_simp; try (with_reducible rfl))
          try simp only [Act.put, List.setIfInBounds_toArray, List.set_cons_zero, List.set_cons_succ]
          refine take_list (i := 1) (v := ?_) rfl (by kernel_rfl) (by kernel_rfl) (by kernel_rfl) (fun _ _ _ h => h) (Or.inl ⟨by rfl, ?_⟩) (by assumption) ?_
          rotate_left
          · (intro w hSw; (try dsimp only at hSw); go_simp; try (with_reducible rfl))
          try simp only [Act.put, List.setIfInBounds_toArray, List.set_cons_zero, List.set_cons_succ]
          refine take_list (i := 2) (v := ?_) rfl (by kernel_rfl) (by kernel_rfl) (by kernel_rfl) (fun _ _ _ h => h) (Or.inl ⟨by rfl, ?_⟩) (by assumption) ?_
          rotate_left
          · (intro w hSw; (try dsimp only at hSw); go_simp; try (with_reducible rfl))
          try simp only [Act.put, List.setIfInBounds_toArray, List.set_cons_zero, List.set_cons_succ]
          refine take_list (i := 4) (v := ?_) rfl (by kernel_rfl) (by kernel_rfl) (by kernel_rfl) (fun _ _ _ h => h) (Or.inl ⟨by rfl, ?_⟩) (by assumption) ?_
          rotate_left
          · (intro w hSw; (try dsimp only at hSw); go_simp; try (with_reducible rfl))
          try simp only [Act.put, List.setIfInBounds_toArray, List.set_cons_zero, List.set_cons_succ]
          refine take_list (i := 5) (v := ?_) rfl (by kernel_rfl) (by kernel_rfl) (by kernel_rfl) (fun _ _ _ h => h) (Or.inl ⟨by rfl, ?_⟩) (by assumption) ?_
          rotate_left
          · (intro w hSw; (try dsimp only at hSw); go_simp; try (with_reducible rfl))
          try simp only [Act.put, List.setIfInBounds_toArray, List.set_cons_zero, List.set_cons_succ]
          refine take_list (i := 6) (v := ?_) rfl (by kernel_rfl) (by kernel_rfl) (by kernel_rfl) (fun _ _ _ h => h) (Or.inl ⟨by rfl, ?_⟩) (by assumption) ?_
          rotate_left
          · (intro w hSw; (try dsimp only at hSw); go_simp; try (with_reducible rfl))
          try simp only [Act.put, List.setIfInBounds_toArray, List.set_cons_zero, List.set_cons_succ]
          refine wpAnyH_ready (rs := [3, 10]) (by kernel_rfl) (by simp) ?_
          refine cons_list rfl (fun K hK => ?_) (cons_list rfl (fun K hK => ?_) AllReadyH.nil)
          ·
            go_simp
            (go_at_call 26; refine (CA.out _ (by repeat (first | assumption | exact Below.refl _ _ | (refine below_drew ?_) | (refine since_alloc ?_ _)))).mono ?_; rintro e wm ⟨Am, cm, rfl, hrm, hvm, hbm⟩; have hsm := hbm.size; have hsv := hvm.size)
            refine hK.out _ _ (trivial) (fun hHeld1 => ?_)
            clear hK K hHeld0
            try simp only [Act.put, List.setIfInBounds_toArray, List.set_cons_zero, List.set_cons_succ]
            refine wpAnyH_ready (rs := [7, 10]) (by kernel_rfl) (by simp) ?_
            refine cons_list rfl (fun K hK => ?_) (cons_list rfl (fun K hK => ?_) AllReadyH.nil)
            ·
              go_simp
              (go_at_call 26; refine (CD.out _ _ (by repeat (first | assumption | exact Below.refl _ _ | (refine below_drew ?_) | (refine since_alloc ?_ _)))).mono ?_; rintro e wn ⟨An, cn, rfl, hrn, hvn, hbn⟩; have hrm2 := RtR.call hrm (by first | exact hbn | exact since_trans (since_alloc (Below.refl _ _) _) hbn); have hsn := hbn.size; have hsvn := hvn.size)
              refine hK.out _ _ (trivial) (fun hHeld2 => ?_)
              clear hK K hHeld1
              try simp only [Act.put, List.setIfInBounds_toArray, List.set_cons_zero, List.set_cons_succ]
              refine wpAnyH_ready (rs := [8, 10]) (by kernel_rfl) (by simp) ?_
              refine cons_list rfl (fun K hK => ?_) (cons_list rfl (fun K hK => ?_) AllReadyH.nil)
              ·
                go_simp
                refine hK.out _ _ (trivial) (fun hHeld3 => ?_)
                clear hK K hHeld2
                try simp only [Act.put, List.setIfInBounds_toArray, List.set_cons_zero, List.set_cons_succ]
                refine wpAnyH_ready (rs := [9, 10]) (by kernel_rfl) (by simp) ?_
                refine cons_list rfl (fun K hK => ?_) (cons_list rfl (fun K hK => ?_) AllReadyH.nil)
                ·
                  go_simp
                  (go_at_call 26; refine (CT.out _ _ Am cm An cn (by repeat (first | assumption | exact Below.refl _ _ | (refine below_drew ?_) | (refine since_alloc ?_ _))) (by first | exact Rd.new (by simp) rfl | exact ((Rd.new (by simp) rfl).alloc (Nat.le_refl _) _).more (by simp)) (by first | exact hrm2.call ((Below.refl _ _).alloc (Nat.le_refl _) _) | exact hrm2.call (since_alloc ((Below.refl _ _).alloc (Nat.le_refl _) _) _)) (by first | exact hrn.call ((Below.refl _ _).alloc (Nat.le_refl _) _) | exact hrn.call (since_alloc ((Below.refl _ _).alloc (Nat.le_refl _) _) _))).mono ?_; rintro e wp ⟨Ap, cp, rfl, hop, hvp, hbp⟩; have hsp := hbp.size)
                  refine hK.out _ _ (trivial) (fun hHeld4 => ?_)
                  clear hK K hHeld3
                  try simp only [Act.put, List.setIfInBounds_toArray, List.set_cons_zero, List.set_cons_succ]
                  refine wpAnyH_ready (rs := [10]) (by kernel_rfl) (by simp) ?_
                  refine cons_list rfl (fun K hK => ?_) AllReadyH.nil
                  go_simp
                  refine hK.out _ _ (trivial) (fun hHeld5 => ?_)
                  clear hK K hHeld4
                  try simp only [Act.put, List.setIfInBounds_toArray, List.set_cons_zero, List.set_cons_succ]
                  refine wpAnyH_ready (rs := [11]) (by kernel_rfl) (by simp) ?_
                  refine cons_list rfl (fun K hK => ?_) AllReadyH.nil
                  (first | (have kz : wp.heap[wn.heap.size + 1]? = some (.cells #[.int .i64 0, .int .i64 0, .slice none 0 0] 41 (0, 0)) := (by have kk := kept_ab hbp; rw [World.size_alloc] at kk; exact kk); have kr0 := cell_of_row wp _ 0 _ _ _ kz; have kr1 := cell_of_row wp _ 1 _ _ _ kz; have kr2 := cell_of_row wp _ 2 _ _ _ kz; have kf0 := frozen_of_row wp _ 0 _ _ kz; have kf1 := frozen_of_row wp _ 1 _ _ kz; have kf2 := frozen_of_row wp _ 2 _ _ kz) | (have kz : wp.heap[wn.heap.size]? = some (.cells #[.int .i64 0, .int .i64 0, .slice none 0 0] 41 (0, 0)) := kept_ab (since_trans (since_alloc (Below.refl _ _) _) hbp); have kr0 := cell_of_row wp _ 0 _ _ _ kz; have kr1 := cell_of_row wp _ 1 _ _ _ kz; have kr2 := cell_of_row wp _ 2 _ _ _ kz; have kf0 := frozen_of_row wp _ 0 _ _ kz; have kf1 := frozen_of_row wp _ 1 _ _ kz; have kf2 := frozen_of_row wp _ 2 _ _ kz) | (have kz : wp.heap[wm.heap.size]? = some (.cells #[.int .i64 0, .int .i64 0, .slice none 0 0] 41 (0, 0)) := kept_ab (since_trans hbn (since_trans (since_alloc (Below.refl _ _) _) hbp)); have kr0 := cell_of_row wp _ 0 _ _ _ kz; have kr1 := cell_of_row wp _ 1 _ _ _ kz; have kr2 := cell_of_row wp _ 2 _ _ _ kz; have kf0 := frozen_of_row wp _ 0 _ _ kz; have kf1 := frozen_of_row wp _ 1 _ _ kz; have kf2 := frozen_of_row wp _ 2 _ _ kz) | (have kz : wp.heap[v6.heap.size]? = some (.cells #[.int .i64 0, .int .i64 0, .slice none 0 0] 41 (0, 0)) := kept_ab_d (since_trans hbm (since_trans hbn (since_trans (since_alloc (Below.refl _ _) _) hbp))); have kr0 := cell_of_row wp _ 0 _ _ _ kz; have kr1 := cell_of_row wp _ 1 _ _ _ kz; have kr2 := cell_of_row wp _ 2 _ _ _ kz; have kf0 := frozen_of_row wp _ 0 _ _ kz; have kf1 := frozen_of_row wp _ 1 _ _ kz; have kf2 := frozen_of_row wp _ 2 _ _ kz) | skip)
                  go_simp
                  refine hK.out _ _ (trivial) (fun hHeld6 => ?_)
                  clear hK K hHeld5
                  try simp only [Act.put, List.setIfInBounds_toArray, List.set_cons_zero, List.set_cons_succ]
                  refine wpAnyH_done (by kernel_rfl) ?_ _
                  clear hHeld6
                  go_wp2
                  go_meet
                  case rel => (refine ⟨_, Ap, cp, rfl, ?_, ?_⟩; (first | exact new_ab hop | exact put_ab kz hop (by simp only [World.size_alloc, World.size_drew] at *; omega)); (simp only [World.size_alloc, World.size_drew] at hsm hsn hsp; (repeat (first | assumption | (refine below_drew ?_) | (refine since_alloc ?_ _) | (refine Below.setCell ?_ (by dsimp only; omega) _)))))
                ·
                  go_simp
                  refine hK.out _ _ (trivial) (fun hHeld4 => ?_)
                  clear hK K hHeld3
                  try simp only [Act.put, List.setIfInBounds_toArray, List.set_cons_zero, List.set_cons_succ]
                  refine wpAnyH_ready (rs := [9]) (by kernel_rfl) (by simp) ?_
                  refine cons_list rfl (fun K hK => ?_) AllReadyH.nil
                  go_simp
                  (go_at_call 26; refine (CT.out _ _ Am cm An cn (by repeat (first | assumption | exact Below.refl _ _ | (refine below_drew ?_) | (refine since_alloc ?_ _))) (by first | exact Rd.new (by simp) rfl | exact ((Rd.new (by simp) rfl).alloc (Nat.le_refl _) _).more (by simp)) (by first | exact hrm2.call ((Below.refl _ _).alloc (Nat.le_refl _) _) | exact hrm2.call (since_alloc ((Below.refl _ _).alloc (Nat.le_refl _) _) _)) (by first | exact hrn.call ((Below.refl _ _).alloc (Nat.le_refl _) _) | exact hrn.call (since_alloc ((Below.refl _ _).alloc (Nat.le_refl _) _) _))).mono ?_; rintro e wp ⟨Ap, cp, rfl, hop, hvp, hbp⟩; have hsp := hbp.size)
                  refine hK.out _ _ (trivial) (fun hHeld5 => ?_)
                  clear hK K hHeld4
                  try simp only [Act.put, List.setIfInBounds_toArray, List.set_cons_zero, List.set_cons_succ]
                  refine wpAnyH_ready (rs := [11]) (by kernel_rfl) (by simp) ?_
                  refine cons_list rfl (fun K hK => ?_) AllReadyH.nil
                  (first | (have kz : wp.heap[wn.heap.size + 1]? = some (.cells #[.int .i64 0, .int .i64 0, .slice none 0 0] 41 (0, 0)) := (by have kk := kept_ab hbp; rw [World.size_alloc] at kk; exact kk); have kr0 := cell_of_row wp _ 0 _ _ _ kz; have kr1 := cell_of_row wp _ 1 _ _ _ kz; have kr2 := cell_of_row wp _ 2 _ _ _ kz; have kf0 := frozen_of_row wp _ 0 _ _ kz; have kf1 := frozen_of_row wp _ 1 _ _ kz; have kf2 := frozen_of_row wp _ 2 _ _ kz) | (have kz : wp.heap[wn.heap.size]? = some (.cells #[.int .i64 0, .int .i64 0, .slice none 0 0] 41 (0, 0)) := kept_ab (since_trans (since_alloc (Below.refl _ _) _) hbp); have kr0 := cell_of_row wp _ 0 _ _ _ kz; have kr1 := cell_of_row wp _ 1 _ _ _ kz; have kr2 := cell_of_row wp _ 2 _ _ _ kz; have kf0 := frozen_of_row wp _ 0 _ _ kz; have kf1 := frozen_of_row wp _ 1 _ _ kz; have kf2 := frozen_of_row wp _ 2 _ _ kz) | (have kz : wp.heap[wm.heap.size]? = some (.cells #[.int .i64 0, .int .i64 0, .slice none 0 0] 41 (0, 0)) := kept_ab (since_trans hbn (since_trans (since_alloc (Below.refl _ _) _) hbp)); have kr0 := cell_of_row wp _ 0 _ _ _ kz; have kr1 := cell_of_row wp _ 1 _ _ _ kz; have kr2 := cell_of_row wp _ 2 _ _ _ kz; have kf0 := frozen_of_row wp _ 0 _ _ kz; have kf1 := frozen_of_row wp _ 1 _ _ kz; have kf2 := frozen_of_row wp _ 2 _ _ kz) | (have kz : wp.heap[v6.heap.size]? = some (.cells #[.int .i64 0, .int .i64 0, .slice none 0 0] 41 (0, 0)) := kept_ab_d (since_trans hbm (since_trans hbn (since_trans (since_alloc (Below.refl _ _) _) hbp))); have kr0 := cell_of_row wp _ 0 _ _ _ kz; have kr1 := cell_of_row wp _ 1 _ _ _ kz; have kr2 := cell_of_row wp _ 2 _ _ _ kz; have kf0 := frozen_of_row wp _ 0 _ _ kz; have kf1 := frozen_of_row wp _ 1 _ _ kz; have kf2 := frozen_of_row wp _ 2 _ _ kz) | skip)
                  go_simp
                  refine hK.out _ _ (trivial) (fun hHeld6 => ?_)
                  clear hK K hHeld5
                  try simp only [Act.put, List.setIfInBounds_toArray, List.set_cons_zero, List.set_cons_succ]
                  refine wpAnyH_done (by kernel_rfl) ?_ _
                  clear hHeld6
                  go_wp2
                  go_meet
                  case rel => (refine ⟨_, Ap, cp, rfl, ?_, ?_⟩; (first | exact new_ab hop | exact put_ab kz hop (by simp only [World.size_alloc, World.size_drew] at *; omega)); (simp only [World.size_alloc, World.size_drew] at hsm hsn hsp; (repeat (first | assumption | (refine below_drew ?_) | (refine since_alloc ?_ _) | (refine Below.setCell ?_ (by dsimp only; omega) _)))))
              ·
                go_simp
                refine hK.out _ _ (trivial) (fun hHeld3 => ?_)
                clear hK K hHeld2
                try simp only [Act.put, List.setIfInBounds_toArray, List.set_cons_zero, List.set_cons_succ]
                refine wpAnyH_ready (rs := [8]) (by kernel_rfl) (by simp) ?_
                refine cons_list rfl (fun K hK => ?_) AllReadyH.nil
                go_simp
                refine hK.out _ _ (trivial) (fun hHeld4 => ?_)
                clear hK K hHeld3
                try simp only [Act.put, List.setIfInBounds_toArray, List.set_cons_zero, List.set_cons_succ]
                refine wpAnyH_ready (rs := [9]) (by kernel_rfl) (by simp) ?_
                refine cons_list rfl (fun K hK => ?_) AllReadyH.nil
                go_simp
                (go_at_call 26; refine (CT.out _ _ Am cm An cn (by repeat (first | assumption | exact Below.refl _ _ | (refine below_drew ?_) | (refine since_alloc ?_ _))) (by first | exact Rd.new (by simp) rfl | exact ((Rd.new (by simp) rfl).alloc (Nat.le_refl _) _).more (by simp)) (by first | exact hrm2.call ((Below.refl _ _).alloc (Nat.le_refl _) _) | exact hrm2.call (since_alloc ((Below.refl _ _).alloc (Nat.le_refl _) _) _)) (by first | exact hrn.call ((Below.refl _ _).alloc (Nat.le_refl _) _) | exact hrn.call (since_alloc ((Below.refl _ _).alloc (Nat.le_refl _) _) _))).mono ?_; rintro e wp ⟨Ap, cp, rfl, hop, hvp, hbp⟩; have hsp := hbp.size)
                refine hK.out _ _ (trivial) (fun hHeld5 => ?_)
                clear hK K hHeld4
                try simp only [Act.put, List.setIfInBounds_toArray, List.set_cons_zero, List.set_cons_succ]
                refine wpAnyH_ready (rs := [11]) (by kernel_rfl) (by simp) ?_
                refine cons_list rfl (fun K hK => ?_) AllReadyH.nil
                (first | (have kz : wp.heap[wn.heap.size + 1]? = some (.cells #[.int .i64 0, .int .i64 0, .slice none 0 0] 41 (0, 0)) := (by have kk := kept_ab hbp; rw [World.size_alloc] at kk; exact kk); have kr0 := cell_of_row wp _ 0 _ _ _ kz; have kr1 := cell_of_row wp _ 1 _ _ _ kz; have kr2 := cell_of_row wp _ 2 _ _ _ kz; have kf0 := frozen_of_row wp _ 0 _ _ kz; have kf1 := frozen_of_row wp _ 1 _ _ kz; have kf2 := frozen_of_row wp _ 2 _ _ kz) | (have kz : wp.heap[wn.heap.size]? = some (.cells #[.int .i64 0, .int .i64 0, .slice none 0 0] 41 (0, 0)) := kept_ab (since_trans (since_alloc (Below.refl _ _) _) hbp); have kr0 := cell_of_row wp _ 0 _ _ _ kz; have kr1 := cell_of_row wp _ 1 _ _ _ kz; have kr2 := cell_of_row wp _ 2 _ _ _ kz; have kf0 := frozen_of_row wp _ 0 _ _ kz; have kf1 := frozen_of_row wp _ 1 _ _ kz; have kf2 := frozen_of_row wp _ 2 _ _ kz) | (have kz : wp.heap[wm.heap.size]? = some (.cells #[.int .i64 0, .int .i64 0, .slice none 0 0] 41 (0, 0)) := kept_ab (since_trans hbn (since_trans (since_alloc (Below.refl _ _) _) hbp)); have kr0 := cell_of_row wp _ 0 _ _ _ kz; have kr1 := cell_of_row wp _ 1 _ _ _ kz; have kr2 := cell_of_row wp _ 2 _ _ _ kz; have kf0 := frozen_of_row wp _ 0 _ _ kz; have kf1 := frozen_of_row wp _ 1 _ _ kz; have kf2 := frozen_of_row wp _ 2 _ _ kz) | (have kz : wp.heap[v6.heap.size]? = some (.cells #[.int .i64 0, .int .i64 0, .slice none 0 0] 41 (0, 0)) := kept_ab_d (since_trans hbm (since_trans hbn (since_trans (since_alloc (Below.refl _ _) _) hbp))); have kr0 := cell_of_row wp _ 0 _ _ _ kz; have kr1 := cell_of_row wp _ 1 _ _ _ kz; have kr2 := cell_of_row wp _ 2 _ _ _ kz; have kf0 := frozen_of_row wp _ 0 _ _ kz; have kf1 := frozen_of_row wp _ 1 _ _ kz; have kf2 := frozen_of_row wp _ 2 _ _ kz) | skip)
                go_simp
                refine hK.out _ _ (trivial) (fun hHeld6 => ?_)
                clear hK K hHeld5
                try simp only [Act.put, List.setIfInBounds_toArray, List.set_cons_zero, List.set_cons_succ]
                refine wpAnyH_done (by kernel_rfl) ?_ _
                clear hHeld6
                go_wp2
                go_meet
                case rel => (refine ⟨_, Ap, cp, rfl, ?_, ?_⟩; (first | exact new_ab hop | exact put_ab kz hop (by simp only [World.size_alloc, World.size_drew] at *; omega)); (simp only [World.size_alloc, World.size_drew] at hsm hsn hsp; (repeat (first | assumption | (refine below_drew ?_) | (refine since_alloc ?_ _) | (refine Below.setCell ?_ (by dsimp only; omega) _)))))
            ·
              go_simp
              refine hK.out _ _ (trivial) (fun hHeld2 => ?_)
              clear hK K hHeld1
              try simp only [Act.put, List.setIfInBounds_toArray, List.set_cons_zero, List.set_cons_succ]
              refine wpAnyH_ready (rs := [7]) (by kernel_rfl) (by simp) ?_
              refine cons_list rfl (fun K hK => ?_) AllReadyH.nil
              go_simp
              (go_at_call 26; refine (CD.out _ _ (by repeat (first | assumption | exact Below.refl _ _ | (refine below_drew ?_) | (refine since_alloc ?_ _)))).mono ?_; rintro e wn ⟨An, cn, rfl, hrn, hvn, hbn⟩; have hrm2 := RtR.call hrm (by first | exact hbn | exact since_trans (since_alloc (Below.refl _ _) _) hbn); have hsn := hbn.size; have hsvn := hvn.size)
              refine hK.out _ _ (trivial) (fun hHeld3 => ?_)
              clear hK K hHeld2
              try simp only [Act.put, List.setIfInBounds_toArray, List.set_cons_zero, List.set_cons_succ]
              refine wpAnyH_ready (rs := [8]) (by kernel_rfl) (by simp) ?_
              refine cons_list rfl (fun K hK => ?_) AllReadyH.nil
              go_simp
              refine hK.out _ _ (trivial) (fun hHeld4 => ?_)
              clear hK K hHeld3
              try simp only [Act.put, List.setIfInBounds_toArray, List.set_cons_zero, List.set_cons_succ]
              refine wpAnyH_ready (rs := [9]) (by kernel_rfl) (by simp) ?_
              refine cons_list rfl (fun K hK => ?_) AllReadyH.nil
              go_simp
              (go_at_call 26; refine (CT.out _ _ Am cm An cn (by repeat (first | assumption | exact Below.refl _ _ | (refine below_drew ?_) | (refine since_alloc ?_ _))) (by first | exact Rd.new (by simp) rfl | exact ((Rd.new (by simp) rfl).alloc (Nat.le_refl _) _).more (by simp)) (by first | exact hrm2.call ((Below.refl _ _).alloc (Nat.le_refl _) _) | exact hrm2.call (since_alloc ((Below.refl _ _).alloc (Nat.le_refl _) _) _)) (by first | exact hrn.call ((Below.refl _ _).alloc (Nat.le_refl _) _) | exact hrn.call (since_alloc ((Below.refl _ _).alloc (Nat.le_refl _) _) _))).mono ?_; rintro e wp ⟨Ap, cp, rfl, hop, hvp, hbp⟩; have hsp := hbp.size)
              refine hK.out _ _ (trivial) (fun hHeld5 => ?_)
              clear hK K hHeld4
              try simp only [Act.put, List.setIfInBounds_toArray, List.set_cons_zero, List.set_cons_succ]
              refine wpAnyH_ready (rs := [11]) (by kernel_rfl) (by simp) ?_
              refine cons_list rfl (fun K hK => ?_) AllReadyH.nil
              (first | (have kz : wp.heap[wn.heap.size + 1]? = some (.cells #[.int .i64 0, .int .i64 0, .slice none 0 0] 41 (0, 0)) := (by have kk := kept_ab hbp; rw [World.size_alloc] at kk; exact kk); have kr0 := cell_of_row wp _ 0 _ _ _ kz; have kr1 := cell_of_row wp _ 1 _ _ _ kz; have kr2 := cell_of_row wp _ 2 _ _ _ kz; have kf0 := frozen_of_row wp _ 0 _ _ kz; have kf1 := frozen_of_row wp _ 1 _ _ kz; have kf2 := frozen_of_row wp _ 2 _ _ kz) | (have kz : wp.heap[wn.heap.size]? = some (.cells #[.int .i64 0, .int .i64 0, .slice none 0 0] 41 (0, 0)) := kept_ab (since_trans (since_alloc (Below.refl _ _) _) hbp); have kr0 := cell_of_row wp _ 0 _ _ _ kz; have kr1 := cell_of_row wp _ 1 _ _ _ kz; have kr2 := cell_of_row wp _ 2 _ _ _ kz; have kf0 := frozen_of_row wp _ 0 _ _ kz; have kf1 := frozen_of_row wp _ 1 _ _ kz; have kf2 := frozen_of_row wp _ 2 _ _ kz) | (have kz : wp.heap[wm.heap.size]? = some (.cells #[.int .i64 0, .int .i64 0, .slice none 0 0] 41 (0, 0)) := kept_ab (since_trans hbn (since_trans (since_alloc (Below.refl _ _) _) hbp)); have kr0 := cell_of_row wp _ 0 _ _ _ kz; have kr1 := cell_of_row wp _ 1 _ _ _ kz; have kr2 := cell_of_row wp _ 2 _ _ _ kz; have kf0 := frozen_of_row wp _ 0 _ _ kz; have kf1 := frozen_of_row wp _ 1 _ _ kz; have kf2 := frozen_of_row wp _ 2 _ _ kz) | (have kz : wp.heap[v6.heap.size]? = some (.cells #[.int .i64 0, .int .i64 0, .slice none 0 0] 41 (0, 0)) := kept_ab_d (since_trans hbm (since_trans hbn (since_trans (since_alloc (Below.refl _ _) _) hbp))); have kr0 := cell_of_row wp _ 0 _ _ _ kz; have kr1 := cell_of_row wp _ 1 _ _ _ kz; have kr2 := cell_of_row wp _ 2 _ _ _ kz; have kf0 := frozen_of_row wp _ 0 _ _ kz; have kf1 := frozen_of_row wp _ 1 _ _ kz; have kf2 := frozen_of_row wp _ 2 _ _ kz) | skip)
              go_simp
              refine hK.out _ _ (trivial) (fun hHeld6 => ?_)
              clear hK K hHeld5
              try simp only [Act.put, List.setIfInBounds_toArray, List.set_cons_zero, List.set_cons_succ]
              refine wpAnyH_done (by kernel_rfl) ?_ _
              clear hHeld6
              go_wp2
              go_meet
              case rel => (refine ⟨_, Ap, cp, rfl, ?_, ?_⟩; (first | exact new_ab hop | exact put_ab kz hop (by simp only [World.size_alloc, World.size_drew] at *; omega)); (simp only [World.size_alloc, World.size_drew] at hsm hsn hsp; (repeat (first | assumption | (refine below_drew ?_) | (refine since_alloc ?_ _) | (refine Below.setCell ?_ (by dsimp only; omega) _)))))
          ·
            go_simp
            refine hK.out _ _ (trivial) (fun hHeld1 => ?_)
            clear hK K hHeld0
            try simp only [Act.put, List.setIfInBounds_toArray, List.set_cons_zero, List.set_cons_succ]
            refine wpAnyH_ready (rs := [3]) (by kernel_rfl) (by simp) ?_
            refine cons_list rfl (fun K hK => ?_) AllReadyH.nil
            go_simp
            (go_at_call 26; refine (CA.out _ (by repeat (first | assumption | exact Below.refl _ _ | (refine below_drew ?_) | (refine since_alloc ?_ _)))).mono ?_; rintro e wm ⟨Am, cm, rfl, hrm, hvm, hbm⟩; have hsm := hbm.size; have hsv := hvm.size)
            refine hK.out _ _ (trivial) (fun hHeld2 => ?_)
            clear hK K hHeld1
            try simp only [Act.put, List.setIfInBounds_toArray, List.set_cons_zero, List.set_cons_succ]
            refine wpAnyH_ready (rs := [7]) (by kernel_rfl) (by simp) ?_
            refine cons_list rfl (fun K hK => ?_) AllReadyH.nil
            go_simp
            (go_at_call 26; refine (CD.out _ _ (by repeat (first | assumption | exact Below.refl _ _ | (refine below_drew ?_) | (refine since_alloc ?_ _)))).mono ?_; rintro e wn ⟨An, cn, rfl, hrn, hvn, hbn⟩; have hrm2 := RtR.call hrm (by first | exact hbn | exact since_trans (since_alloc (Below.refl _ _) _) hbn); have hsn := hbn.size; have hsvn := hvn.size)
            refine hK.out _ _ (trivial) (fun hHeld3 => ?_)
            clear hK K hHeld2
            try simp only [Act.put, List.setIfInBounds_toArray, List.set_cons_zero, List.set_cons_succ]
            refine wpAnyH_ready (rs := [8]) (by kernel_rfl) (by simp) ?_
            refine cons_list rfl (fun K hK => ?_) AllReadyH.nil
            go_simp
            refine hK.out _ _ (trivial) (fun hHeld4 => ?_)
            clear hK K hHeld3
            try simp only [Act.put, List.setIfInBounds_toArray, List.set_cons_zero, List.set_cons_succ]
            refine wpAnyH_ready (rs := [9]) (by kernel_rfl) (by simp) ?_
            refine cons_list rfl (fun K hK => ?_) AllReadyH.nil
            go_simp
            (go_at_call 26; refine (CT.out _ _ Am cm An cn (by repeat (first | assumption | exact Below.refl _ _ | (refine below_drew ?_) | (refine since_alloc ?_ _))) (by first | exact Rd.new (by simp) rfl | exact ((Rd.new (by simp) rfl).alloc (Nat.le_refl _) _).more (by simp)) (by first | exact hrm2.call ((Below.refl _ _).alloc (Nat.le_refl _) _) | exact hrm2.call (since_alloc ((Below.refl _ _).alloc (Nat.le_refl _) _) _)) (by first | exact hrn.call ((Below.refl _ _).alloc (Nat.le_refl _) _) | exact hrn.call (since_alloc ((Below.refl _ _).alloc (Nat.le_refl _) _) _))).mono ?_; rintro e wp ⟨Ap, cp, rfl, hop, hvp, hbp⟩; have hsp := hbp.size)
            refine hK.out _ _ (trivial) (fun hHeld5 => ?_)
            clear hK K hHeld4
            try simp only [Act.put, List.setIfInBounds_toArray, List.set_cons_zero, List.set_cons_succ]
            refine wpAnyH_ready (rs := [11]) (by kernel_rfl) (by simp) ?_
            refine cons_list rfl (fun K hK => ?_) AllReadyH.nil
            (first | (have kz : wp.heap[wn.heap.size + 1]? = some (.cells #[.int .i64 0, .int .i64 0, .slice none 0 0] 41 (0, 0)) := (by have kk := kept_ab hbp; rw [World.size_alloc] at kk; exact kk); have kr0 := cell_of_row wp _ 0 _ _ _ kz; have kr1 := cell_of_row wp _ 1 _ _ _ kz; have kr2 := cell_of_row wp _ 2 _ _ _ kz; have kf0 := frozen_of_row wp _ 0 _ _ kz; have kf1 := frozen_of_row wp _ 1 _ _ kz; have kf2 := frozen_of_row wp _ 2 _ _ kz) | (have kz : wp.heap[wn.heap.size]? = some (.cells #[.int .i64 0, .int .i64 0, .slice none 0 0] 41 (0, 0)) := kept_ab (since_trans (since_alloc (Below.refl _ _) _) hbp); have kr0 := cell_of_row wp _ 0 _ _ _ kz; have kr1 := cell_of_row wp _ 1 _ _ _ kz; have kr2 := cell_of_row wp _ 2 _ _ _ kz; have kf0 := frozen_of_row wp _ 0 _ _ kz; have kf1 := frozen_of_row wp _ 1 _ _ kz; have kf2 := frozen_of_row wp _ 2 _ _ kz) | (have kz : wp.heap[wm.heap.size]? = some (.cells #[.int .i64 0, .int .i64 0, .slice none 0 0] 41 (0, 0)) := kept_ab (since_trans hbn (since_trans (since_alloc (Below.refl _ _) _) hbp)); have kr0 := cell_of_row wp _ 0 _ _ _ kz; have kr1 := cell_of_row wp _ 1 _ _ _ kz; have kr2 := cell_of_row wp _ 2 _ _ _ kz; have kf0 := frozen_of_row wp _ 0 _ _ kz; have kf1 := frozen_of_row wp _ 1 _ _ kz; have kf2 := frozen_of_row wp _ 2 _ _ kz) | (have kz : wp.heap[v6.heap.size]? = some (.cells #[.int .i64 0, .int .i64 0, .slice none 0 0] 41 (0, 0)) := kept_ab_d (since_trans hbm (since_trans hbn (since_trans (since_alloc (Below.refl _ _) _) hbp))); have kr0 := cell_of_row wp _ 0 _ _ _ kz; have kr1 := cell_of_row wp _ 1 _ _ _ kz; have kr2 := cell_of_row wp _ 2 _ _ _ kz; have kf0 := frozen_of_row wp _ 0 _ _ kz; have kf1 := frozen_of_row wp _ 1 _ _ kz; have kf2 := frozen_of_row wp _ 2 _ _ kz) | skip)
            go_simp
            refine hK.out _ _ (trivial) (fun hHeld6 => ?_)
            clear hK K hHeld5
            try simp only [Act.put, List.setIfInBounds_toArray, List.set_cons_zero, List.set_cons_succ]
            refine wpAnyH_done (by kernel_rfl) ?_ _
            clear hHeld6
            go_wp2
            go_meet
            case rel => (refine ⟨_, Ap, cp, rfl, ?_, ?_⟩; (first | exact new_ab hop | exact put_ab kz hop (by simp only [World.size_alloc, World.size_drew] at *; omega)); (simp only [World.size_alloc, World.size_drew] at hsm hsn hsp; (repeat (first | assumption | (refine below_drew ?_) | (refine since_alloc ?_ _) | (refine Below.setCell ?_ (by dsimp only; omega) _)))))
        · obtain ⟨g, off, cur, e, -⟩ := L6.out.row.2.2.2.2.2 (by have := List.length_pos_iff.2 hL0; omega)
          subst e
          have CD : Hid (∀ wy c3, Below v6.heap.size v6 wy → _) := Lib.hid (fun wy c3 hb => CD0.out wy (some ⟨g, off, none⟩) c3 hb (HRZ.out _))
          have HKL2 := Lib.hid hkL2
          subst hck
          clear hL0 hkL2 CD0 HRZ hkm hu4
          refine wp_region_held_drew (S := (fun _ => True)) (by kernel_rfl) (trivial) (fun hHeld0 => ?_)
          refine take_list (i := 0) (v := ?_) rfl (by kernel_rfl) (by kernel_rfl) (by kernel_rfl) (fun _ _ _ h => h) (Or.inl ⟨by rfl, ?_⟩) (by assumption) ?_
          rotate_left
          · (intro w hSw; (try dsimp only at hSw); go_simp; try (with_reducible rfl))
          try simp only [Act.put, List.setIfInBounds_toArray, List.set_cons_zero, List.set_cons_succ]
          refine take_list (i := 1) (v := ?_) rfl (by kernel_rfl) (by kernel_rfl) (by kernel_rfl) (fun _ _ _ h => h) (Or.inl ⟨by rfl, ?_⟩) (by assumption) ?_
          rotate_left
          · (intro w hSw; (try dsimp only at hSw); go_simp; try (with_reducible rfl))
          try simp only [Act.put, List.setIfInBounds_toArray, List.set_cons_zero, List.set_cons_succ]
          refine take_list (i := 2) (v := ?_) rfl (by kernel_rfl) (by kernel_rfl) (by kernel_rfl) (fun _ _ _ h => h) (Or.inl ⟨by rfl, ?_⟩) (by assumption) ?_
          rotate_left
          · (intro w hSw; (try dsimp only at hSw); go_simp; try (with_reducible rfl))
          try simp only [Act.put, List.setIfInBounds_toArray, List.set_cons_zero, List.set_cons_succ]
          refine take_list (i := 4) (v := ?_) rfl (by kernel_rfl) (by kernel_rfl) (by kernel_rfl) (fun _ _ _ h => h) (Or.inl ⟨by rfl, ?_⟩) (by assumption) ?_
          rotate_left
          · (intro w hSw; (try dsimp only at hSw); go_simp; try (with_reducible rfl))
          try simp only [Act.put, List.setIfInBounds_toArray, List.set_cons_zero, List.set_cons_succ]
          refine take_list (i := 5) (v := ?_) rfl (by kernel_rfl) (by kernel_rfl) (by kernel_rfl) (fun _ _ _ h => h) (Or.inl ⟨by rfl, ?_⟩) (by assumption) ?_
          rotate_left
          · (intro w hSw; (try dsimp only at hSw); go_simp; try (with_reducible rfl))
          try simp only [Act.put, List.setIfInBounds_toArray, List.set_cons_zero, List.set_cons_succ]
          refine take_list (i := 6) (v := ?_) rfl (by kernel_rfl) (by kernel_rfl) (by kernel_rfl) (fun _ _ _ h => h) (Or.inl ⟨by rfl, ?_⟩) (by assumption) ?_
          rotate_left
          · (intro w hSw; (try dsimp only at hSw); go_simp; try (with_reducible rfl))
          try simp only [Act.put, List.setIfInBounds_toArray, List.set_cons_zero, List.set_cons_succ]
          refine wpAnyH_ready (rs := [3, 10]) (by kernel_rfl) (by simp) ?_
          refine cons_list rfl (fun K hK => ?_) (cons_list rfl (fun K hK => ?_) AllReadyH.nil)
          ·
            go_simp
            (go_at_call 26; refine (CA.out _ (by repeat (first | assumption | exact Below.refl _ _ | (refine below_drew ?_) | (refine since_alloc ?_ _)))).mono ?_; rintro e wm ⟨Am, cm, rfl, hrm, hvm, hbm⟩; have hsm := hbm.size; have hsv := hvm.size)
            refine hK.out _ _ (trivial) (fun hHeld1 => ?_)
            clear hK K hHeld0
            try simp only [Act.put, List.setIfInBounds_toArray, List.set_cons_zero, List.set_cons_succ]
            refine wpAnyH_ready (rs := [7, 10]) (by kernel_rfl) (by simp) ?_
            refine cons_list rfl (fun K hK => ?_) (cons_list rfl (fun K hK => ?_) AllReadyH.nil)
            ·
              go_simp
              (go_at_call 26; refine (CD.out _ _ (by repeat (first | assumption | exact Below.refl _ _ | (refine below_drew ?_) | (refine since_alloc ?_ _)))).mono ?_; rintro e wn ⟨An, cn, rfl, hrn, hvn, hbn⟩; have hrm2 := RtR.call hrm (by first | exact hbn | exact since_trans (since_alloc (Below.refl _ _) _) hbn); have hsn := hbn.size; have hsvn := hvn.size)
              refine hK.out _ _ (trivial) (fun hHeld2 => ?_)
              clear hK K hHeld1
              try simp only [Act.put, List.setIfInBounds_toArray, List.set_cons_zero, List.set_cons_succ]
              refine wpAnyH_ready (rs := [8, 10]) (by kernel_rfl) (by simp) ?_
              refine cons_list rfl (fun K hK => ?_) (cons_list rfl (fun K hK => ?_) AllReadyH.nil)
              ·
                go_simp
                refine hK.out _ _ (trivial) (fun hHeld3 => ?_)
                clear hK K hHeld2
                try simp only [Act.put, List.setIfInBounds_toArray, List.set_cons_zero, List.set_cons_succ]
                refine wpAnyH_ready (rs := [9, 10]) (by kernel_rfl) (by simp) ?_
                refine cons_list rfl (fun K hK => ?_) (cons_list rfl (fun K hK => ?_) AllReadyH.nil)
                ·
                  go_simp
                  (go_at_call 26; refine (CT.out _ _ Am cm An cn (by repeat (first | assumption | exact Below.refl _ _ | (refine below_drew ?_) | (refine since_alloc ?_ _))) (by first | exact Rd.new (by simp) rfl | exact ((Rd.new (by simp) rfl).alloc (Nat.le_refl _) _).more (by simp)) (by first | exact hrm2.call ((Below.refl _ _).alloc (Nat.le_refl _) _) | exact hrm2.call (since_alloc ((Below.refl _ _).alloc (Nat.le_refl _) _) _)) (by first | exact hrn.call ((Below.refl _ _).alloc (Nat.le_refl _) _) | exact hrn.call (since_alloc ((Below.refl _ _).alloc (Nat.le_refl _) _) _))).mono ?_; rintro e wp ⟨Ap, cp, rfl, hop, hvp, hbp⟩; have hsp := hbp.size)
                  refine hK.out _ _ (trivial) (fun hHeld4 => ?_)
                  clear hK K hHeld3
                  try simp only [Act.put, List.setIfInBounds_toArray, List.set_cons_zero, List.set_cons_succ]
                  refine wpAnyH_ready (rs := [10]) (by kernel_rfl) (by simp) ?_
                  refine cons_list rfl (fun K hK => ?_) AllReadyH.nil
                  go_simp
                  refine hK.out _ _ (trivial) (fun hHeld5 => ?_)
                  clear hK K hHeld4
                  try simp only [Act.put, List.setIfInBounds_toArray, List.set_cons_zero, List.set_cons_succ]
                  refine wpAnyH_ready (rs := [11]) (by kernel_rfl) (by simp) ?_
                  refine cons_list rfl (fun K hK => ?_) AllReadyH.nil
                  (first | (have kz : wp.heap[wn.heap.size + 1]? = some (.cells #[.int .i64 0, .int .i64 0, .slice none 0 0] 41 (0, 0)) := (by have kk := kept_ab hbp; rw [World.size_alloc] at kk; exact kk); have kr0 := cell_of_row wp _ 0 _ _ _ kz; have kr1 := cell_of_row wp _ 1 _ _ _ kz; have kr2 := cell_of_row wp _ 2 _ _ _ kz; have kf0 := frozen_of_row wp _ 0 _ _ kz; have kf1 := frozen_of_row wp _ 1 _ _ kz; have kf2 := frozen_of_row wp _ 2 _ _ kz) | (have kz : wp.heap[wn.heap.size]? = some (.cells #[.int .i64 0, .int .i64 0, .slice none 0 0] 41 (0, 0)) := kept_ab (since_trans (since_alloc (Below.refl _ _) _) hbp); have kr0 := cell_of_row wp _ 0 _ _ _ kz; have kr1 := cell_of_row wp _ 1 _ _ _ kz; have kr2 := cell_of_row wp _ 2 _ _ _ kz; have kf0 := frozen_of_row wp _ 0 _ _ kz; have kf1 := frozen_of_row wp _ 1 _ _ kz; have kf2 := frozen_of_row wp _ 2 _ _ kz) | (have kz : wp.heap[wm.heap.size]? = some (.cells #[.int .i64 0, .int .i64 0, .slice none 0 0] 41 (0, 0)) := kept_ab (since_trans hbn (since_trans (since_alloc (Below.refl _ _) _) hbp)); have kr0 := cell_of_row wp _ 0 _ _ _ kz; have kr1 := cell_of_row wp _ 1 _ _ _ kz; have kr2 := cell_of_row wp _ 2 _ _ _ kz; have kf0 := frozen_of_row wp _ 0 _ _ kz; have kf1 := frozen_of_row wp _ 1 _ _ kz; have kf2 := frozen_of_row wp _ 2 _ _ kz) | (have kz : wp.heap[v6.heap.size]? = some (.cells #[.int .i64 0, .int .i64 0, .slice none 0 0] 41 (0, 0)) := kept_ab_d (since_trans hbm (since_trans hbn (since_trans (since_alloc (Below.refl _ _) _) hbp))); have kr0 := cell_of_row wp _ 0 _ _ _ kz; have kr1 := cell_of_row wp _ 1 _ _ _ kz; have kr2 := cell_of_row wp _ 2 _ _ _ kz; have kf0 := frozen_of_row wp _ 0 _ _ kz; have kf1 := frozen_of_row wp _ 1 _ _ kz; have kf2 := frozen_of_row wp _ 2 _ _ kz) | skip)
                  go_simp
                  refine hK.out _ _ (trivial) (fun hHeld6 => ?_)
                  clear hK K hHeld5
                  try simp only [Act.put, List.setIfInBounds_toArray, List.set_cons_zero, List.set_cons_succ]
                  refine wpAnyH_done (by kernel_rfl) ?_ _
                  clear hHeld6
                  go_wp2
                  go_meet
                  case rel => (refine ⟨_, Ap, cp, rfl, ?_, ?_⟩; (first | exact new_ab hop | exact put_ab kz hop (by simp only [World.size_alloc, World.size_drew] at *; omega)); (simp only [World.size_alloc, World.size_drew] at hsm hsn hsp; (repeat (first | assumption | (refine below_drew ?_) | (refine since_alloc ?_ _) | (refine Below.setCell ?_ (by dsimp only; omega) _)))))
                ·
                  go_simp
                  refine hK.out _ _ (trivial) (fun hHeld4 => ?_)
                  clear hK K hHeld3
                  try simp only [Act.put, List.setIfInBounds_toArray, List.set_cons_zero, List.set_cons_succ]
                  refine wpAnyH_ready (rs := [9]) (by kernel_rfl) (by simp) ?_
                  refine cons_list rfl (fun K hK => ?_) AllReadyH.nil
                  go_simp
                  (go_at_call 26; refine (CT.out _ _ Am cm An cn (by repeat (first | assumption | exact Below.refl _ _ | (refine below_drew ?_) | (refine since_alloc ?_ _))) (by first | exact Rd.new (by simp) rfl | exact ((Rd.new (by simp) rfl).alloc (Nat.le_refl _) _).more (by simp)) (by first | exact hrm2.call ((Below.refl _ _).alloc (Nat.le_refl _) _) | exact hrm2.call (since_alloc ((Below.refl _ _).alloc (Nat.le_refl _) _) _)) (by first | exact hrn.call ((Below.refl _ _).alloc (Nat.le_refl _) _) | exact hrn.call (since_alloc ((Below.refl _ _).alloc (Nat.le_refl _) _) _))).mono ?_; rintro e wp ⟨Ap, cp, rfl, hop, hvp, hbp⟩; have hsp := hbp.size)
                  refine hK.out _ _ (trivial) (fun hHeld5 => ?_)
                  clear hK K hHeld4
                  try simp only [Act.put, List.setIfInBounds_toArray, List.set_cons_zero, List.set_cons_succ]
                  refine wpAnyH_ready (rs := [11]) (by kernel_rfl) (by simp) ?_
                  refine cons_list rfl (fun K hK => ?_) AllReadyH.nil
                  (first | (have kz : wp.heap[wn.heap.size + 1]? = some (.cells #[.int .i64 0, .int .i64 0, .slice none 0 0] 41 (0, 0)) := (by have kk := kept_ab hbp; rw [World.size_alloc] at kk; exact kk); have kr0 := cell_of_row wp _ 0 _ _ _ kz; have kr1 := cell_of_row wp _ 1 _ _ _ kz; have kr2 := cell_of_row wp _ 2 _ _ _ kz; have kf0 := frozen_of_row wp _ 0 _ _ kz; have kf1 := frozen_of_row wp _ 1 _ _ kz; have kf2 := frozen_of_row wp _ 2 _ _ kz) | (have kz : wp.heap[wn.heap.size]? = some (.cells #[.int .i64 0, .int .i64 0, .slice none 0 0] 41 (0, 0)) := kept_ab (since_trans (since_alloc (Below.refl _ _) _) hbp); have kr0 := cell_of_row wp _ 0 _ _ _ kz; have kr1 := cell_of_row wp _ 1 _ _ _ kz; have kr2 := cell_of_row wp _ 2 _ _ _ kz; have kf0 := frozen_of_row wp _ 0 _ _ kz; have kf1 := frozen_of_row wp _ 1 _ _ kz; have kf2 := frozen_of_row wp _ 2 _ _ kz) | (have kz : wp.heap[wm.heap.size]? = some (.cells #[.int .i64 0, .int .i64 0, .slice none 0 0] 41 (0, 0)) := kept_ab (since_trans hbn (since_trans (since_alloc (Below.refl _ _) _) hbp)); have kr0 := cell_of_row wp _ 0 _ _ _ kz; have kr1 := cell_of_row wp _ 1 _ _ _ kz; have kr2 := cell_of_row wp _ 2 _ _ _ kz; have kf0 := frozen_of_row wp _ 0 _ _ kz; have kf1 := frozen_of_row wp _ 1 _ _ kz; have kf2 := frozen_of_row wp _ 2 _ _ kz) | (have kz : wp.heap[v6.heap.size]? = some (.cells #[.int .i64 0, .int .i64 0, .slice none 0 0] 41 (0, 0)) := kept_ab_d (since_trans hbm (since_trans hbn (since_trans (since_alloc (Below.refl _ _) _) hbp))); have kr0 := cell_of_row wp _ 0 _ _ _ kz; have kr1 := cell_of_row wp _ 1 _ _ _ kz; have kr2 := cell_of_row wp _ 2 _ _ _ kz; have kf0 := frozen_of_row wp _ 0 _ _ kz; have kf1 := frozen_of_row wp _ 1 _ _ kz; have kf2 := frozen_of_row wp _ 2 _ _ kz) | skip)
                  go_simp
                  refine hK.out _ _ (trivial) (fun hHeld6 => ?_)
                  clear hK K hHeld5
                  try simp only [Act.put, List.setIfInBounds_toArray, List.set_cons_zero, List.set_cons_succ]
                  refine wpAnyH_done (by kernel_rfl) ?_ _
                  clear hHeld6
                  go_wp2
                  go_meet
                  case rel => (refine ⟨_, Ap, cp, rfl, ?_, ?_⟩; (first | exact new_ab hop | exact put_ab kz hop (by simp only [World.size_alloc, World.size_drew] at *; omega)); (simp only [World.size_alloc, World.size_drew] at hsm hsn hsp; (repeat (first | assumption | (refine below_drew ?_) | (refine since_alloc ?_ _) | (refine Below.setCell ?_ (by dsimp only; omega) _)))))
              ·
                go_simp
                refine hK.out _ _ (trivial) (fun hHeld3 => ?_)
                clear hK K hHeld2
                try simp only [Act.put, List.setIfInBounds_toArray, List.set_cons_zero, List.set_cons_succ]
                refine wpAnyH_ready (rs := [8]) (by kernel_rfl) (by simp) ?_
                refine cons_list rfl (fun K hK => ?_) AllReadyH.nil
                go_simp
                refine hK.out _ _ (trivial) (fun hHeld4 => ?_)
                clear hK K hHeld3
                try simp only [Act.put, List.setIfInBounds_toArray, List.set_cons_zero, List.set_cons_succ]
                refine wpAnyH_ready (rs := [9]) (by kernel_rfl) (by simp) ?_
                refine cons_list rfl (fun K hK => ?_) AllReadyH.nil
                go_simp
                (go_at_call 26; refine (CT.out _ _ Am cm An cn (by repeat (first | assumption | exact Below.refl _ _ | (refine below_drew ?_) | (refine since_alloc ?_ _))) (by first | exact Rd.new (by simp) rfl | exact ((Rd.new (by simp) rfl).alloc (Nat.le_refl _) _).more (by simp)) (by first | exact hrm2.call ((Below.refl _ _).alloc (Nat.le_refl _) _) | exact hrm2.call (since_alloc ((Below.refl _ _).alloc (Nat.le_refl _) _) _)) (by first | exact hrn.call ((Below.refl _ _).alloc (Nat.le_refl _) _) | exact hrn.call (since_alloc ((Below.refl _ _).alloc (Nat.le_refl _) _) _))).mono ?_; rintro e wp ⟨Ap, cp, rfl, hop, hvp, hbp⟩; have hsp := hbp.size)
                refine hK.out _ _ (trivial) (fun hHeld5 => ?_)
                clear hK K hHeld4
                try simp only [Act.put, List.setIfInBounds_toArray, List.set_cons_zero, List.set_cons_succ]
                refine wpAnyH_ready (rs := [11]) (by kernel_rfl) (by simp) ?_
                refine cons_list rfl (fun K hK => ?_) AllReadyH.nil
                (first | (have kz : wp.heap[wn.heap.size + 1]? = some (.cells #[.int .i64 0, .int .i64 0, .slice none 0 0] 41 (0, 0)) := (by have kk := kept_ab hbp; rw [World.size_alloc] at kk; exact kk); have kr0 := cell_of_row wp _ 0 _ _ _ kz; have kr1 := cell_of_row wp _ 1 _ _ _ kz; have kr2 := cell_of_row wp _ 2 _ _ _ kz; have kf0 := frozen_of_row wp _ 0 _ _ kz; have kf1 := frozen_of_row wp _ 1 _ _ kz; have kf2 := frozen_of_row wp _ 2 _ _ kz) | (have kz : wp.heap[wn.heap.size]? = some (.cells #[.int .i64 0, .int .i64 0, .slice none 0 0] 41 (0, 0)) := kept_ab (since_trans (since_alloc (Below.refl _ _) _) hbp); have kr0 := cell_of_row wp _ 0 _ _ _ kz; have kr1 := cell_of_row wp _ 1 _ _ _ kz; have kr2 := cell_of_row wp _ 2 _ _ _ kz; have kf0 := frozen_of_row wp _ 0 _ _ kz; have kf1 := frozen_of_row wp _ 1 _ _ kz; have kf2 := frozen_of_row wp _ 2 _ _ kz) | (have kz : wp.heap[wm.heap.size]? = some (.cells #[.int .i64 0, .int .i64 0, .slice none 0 0] 41 (0, 0)) := kept_ab (since_trans hbn (since_trans (since_alloc (Below.refl _ _) _) hbp)); have kr0 := cell_of_row wp _ 0 _ _ _ kz; have kr1 := cell_of_row wp _ 1 _ _ _ kz; have kr2 := cell_of_row wp _ 2 _ _ _ kz; have kf0 := frozen_of_row wp _ 0 _ _ kz; have kf1 := frozen_of_row wp _ 1 _ _ kz; have kf2 := frozen_of_row wp _ 2 _ _ kz) | (have kz : wp.heap[v6.heap.size]? = some (.cells #[.int .i64 0, .int .i64 0, .slice none 0 0] 41 (0, 0)) := kept_ab_d (since_trans hbm (since_trans hbn (since_trans (since_alloc (Below.refl _ _) _) hbp))); have kr0 := cell_of_row wp _ 0 _ _ _ kz; have kr1 := cell_of_row wp _ 1 _ _ _ kz; have kr2 := cell_of_row wp _ 2 _ _ _ kz; have kf0 := frozen_of_row wp _ 0 _ _ kz; have kf1 := frozen_of_row wp _ 1 _ _ kz; have kf2 := frozen_of_row wp _ 2 _ _ kz) | skip)
                go_simp
                refine hK.out _ _ (trivial) (fun hHeld6 => ?_)
                clear hK K hHeld5
                try simp only [Act.put, List.setIfInBounds_toArray, List.set_cons_zero, List.set_cons_succ]
                refine wpAnyH_done (by kernel_rfl) ?_ _
                clear hHeld6
                go_wp2
                go_meet
                case rel => (refine ⟨_, Ap, cp, rfl, ?_, ?_⟩; (first | exact new_ab hop | exact put_ab kz hop (by simp only [World.size_alloc, World.size_drew] at *; omega)); (simp only [World.size_alloc, World.size_drew] at hsm hsn hsp; (repeat (first | assumption | (refine below_drew ?_) | (refine since_alloc ?_ _) | (refine Below.setCell ?_ (by dsimp only; omega) _)))))
            ·
              go_simp
              refine hK.out _ _ (trivial) (fun hHeld2 => ?_)
              clear hK K hHeld1
              try simp only [Act.put, List.setIfInBounds_toArray, List.set_cons_zero, List.set_cons_succ]
              refine wpAnyH_ready (rs := [7]) (by kernel_rfl) (by simp) ?_
              refine cons_list rfl (fun K hK => ?_) AllReadyH.nil
              go_simp
              (go_at_call 26; refine (CD.out _ _ (by repeat (first | assumption | exact Below.refl _ _ | (refine below_drew ?_) | (refine since_alloc ?_ _)))).mono ?_; rintro e wn ⟨An, cn, rfl, hrn, hvn, hbn⟩; have hrm2 := RtR.call hrm (by first | exact hbn | exact since_trans (since_alloc (Below.refl _ _) _) hbn); have hsn := hbn.size; have hsvn := hvn.size)
              refine hK.out _ _ (trivial) (fun hHeld3 => ?_)
              clear hK K hHeld2
              try simp only [Act.put, List.setIfInBounds_toArray, List.set_cons_zero, List.set_cons_succ]
              refine wpAnyH_ready (rs := [8]) (by kernel_rfl) (by simp) ?_
              refine cons_list rfl (fun K hK => ?_) AllReadyH.nil
              go_simp
              refine hK.out _ _ (trivial) (fun hHeld4 => ?_)
              clear hK K hHeld3
              try simp only [Act.put, List.setIfInBounds_toArray, List.set_cons_zero, List.set_cons_succ]
              refine wpAnyH_ready (rs := [9]) (by kernel_rfl) (by simp) ?_
              refine cons_list rfl (fun K hK => ?_) AllReadyH.nil
              go_simp
              (go_at_call 26; refine (CT.out _ _ Am cm An cn (by repeat (first | assumption | exact Below.refl _ _ | (refine below_drew ?_) | (refine since_alloc ?_ _))) (by first | exact Rd.new (by simp) rfl | exact ((Rd.new (by simp) rfl).alloc (Nat.le_refl _) _).more (by simp)) (by first | exact hrm2.call ((Below.refl _ _).alloc (Nat.le_refl _) _) | exact hrm2.call (since_alloc ((Below.refl _ _).alloc (Nat.le_refl _) _) _)) (by first | exact hrn.call ((Below.refl _ _).alloc (Nat.le_refl _) _) | exact hrn.call (since_alloc ((Below.refl _ _).alloc (Nat.le_refl _) _) _))).mono ?_; rintro e wp ⟨Ap, cp, rfl, hop, hvp, hbp⟩; have hsp := hbp.size)
              refine hK.out _ _ (trivial) (fun hHeld5 => ?_)
              clear hK K hHeld4
              try simp only [Act.put, List.setIfInBounds_toArray, List.set_cons_zero, List.set_cons_succ]
              refine wpAnyH_ready (rs := [11]) (by kernel_rfl) (by simp) ?_
              refine cons_list rfl (fun K hK => ?_) AllReadyH.nil
              (first | (have kz : wp.heap[wn.heap.size + 1]? = some (.cells #[.int .i64 0, .int .i64 0, .slice none 0 0] 41 (0, 0)) := (by have kk := kept_ab hbp; rw [World.size_alloc] at kk; exact kk); have kr0 := cell_of_row wp _ 0 _ _ _ kz; have kr1 := cell_of_row wp _ 1 _ _ _ kz; have kr2 := cell_of_row wp _ 2 _ _ _ kz; have kf0 := frozen_of_row wp _ 0 _ _ kz; have kf1 := frozen_of_row wp _ 1 _ _ kz; have kf2 := frozen_of_row wp _ 2 _ _ kz) | (have kz : wp.heap[wn.heap.size]? = some (.cells #[.int .i64 0, .int .i64 0, .slice none 0 0] 41 (0, 0)) := kept_ab (since_trans (since_alloc (Below.refl _ _) _) hbp); have kr0 := cell_of_row wp _ 0 _ _ _ kz; have kr1 := cell_of_row wp _ 1 _ _ _ kz; have kr2 := cell_of_row wp _ 2 _ _ _ kz; have kf0 := frozen_of_row wp _ 0 _ _ kz; have kf1 := frozen_of_row wp _ 1 _ _ kz; have kf2 := frozen_of_row wp _ 2 _ _ kz) | (have kz : wp.heap[wm.heap.size]? = some (.cells #[.int .i64 0, .int .i64 0, .slice none 0 0] 41 (0, 0)) := kept_ab (since_trans hbn (since_trans (since_alloc (Below.refl _ _) _) hbp)); have kr0 := cell_of_row wp _ 0 _ _ _ kz; have kr1 := cell_of_row wp _ 1 _ _ _ kz; have kr2 := cell_of_row wp _ 2 _ _ _ kz; have kf0 := frozen_of_row wp _ 0 _ _ kz; have kf1 := frozen_of_row wp _ 1 _ _ kz; have kf2 := frozen_of_row wp _ 2 _ _ kz) | (have kz : wp.heap[v6.heap.size]? = some (.cells #[.int .i64 0, .int .i64 0, .slice none 0 0] 41 (0, 0)) := kept_ab_d (since_trans hbm (since_trans hbn (since_trans (since_alloc (Below.refl _ _) _) hbp))); have kr0 := cell_of_row wp _ 0 _ _ _ kz; have kr1 := cell_of_row wp _ 1 _ _ _ kz; have kr2 := cell_of_row wp _ 2 _ _ _ kz; have kf0 := frozen_of_row wp _ 0 _ _ kz; have kf1 := frozen_of_row wp _ 1 _ _ kz; have kf2 := frozen_of_row wp _ 2 _ _ kz) | skip)
              go_simp
              refine hK.out _ _ (trivial) (fun hHeld6 => ?_)
              clear hK K hHeld5
              try simp only [Act.put, List.setIfInBounds_toArray, List.set_cons_zero, List.set_cons_succ]
              refine wpAnyH_done (by kernel_rfl) ?_ _
              clear hHeld6
              go_wp2
              go_meet
              case rel => (refine ⟨_, Ap, cp, rfl, ?_, ?_⟩; (first | exact new_ab hop | exact put_ab kz hop (by simp only [World.size_alloc, World.size_drew] at *; omega)); (simp only [World.size_alloc, World.size_drew] at hsm hsn hsp; (repeat (first | assumption | (refine below_drew ?_) | (refine since_alloc ?_ _) | (refine Below.setCell ?_ (by dsimp only; omega) _)))))
          ·
            go_simp
            refine hK.out _ _ (trivial) (fun hHeld1 => ?_)
            clear hK K hHeld0
            try simp only [Act.put, List.setIfInBounds_toArray, List.set_cons_zero, List.set_cons_succ]
            refine wpAnyH_ready (rs := [3]) (by kernel_rfl) (by simp) ?_
            refine cons_list rfl (fun K hK => ?_) AllReadyH.nil
            go_simp
            (go_at_call 26; refine (CA.out _ (by repeat (first | assumption | exact Below.refl _ _ | (refine below_drew ?_) | (refine since_alloc ?_ _)))).mono ?_; rintro e wm ⟨Am, cm, rfl, hrm, hvm, hbm⟩; have hsm := hbm.size; have hsv := hvm.size)
            refine hK.out _ _ (trivial) (fun hHeld2 => ?_)
            clear hK K hHeld1
            try simp only [Act.put, List.setIfInBounds_toArray, List.set_cons_zero, List.set_cons_succ]
            refine wpAnyH_ready (rs := [7]) (by kernel_rfl) (by simp) ?_
            refine cons_list rfl (fun K hK => ?_) AllReadyH.nil
            go_simp
            (go_at_call 26; refine (CD.out _ _ (by repeat (first | assumption | exact Below.refl _ _ | (refine below_drew ?_) | (refine since_alloc ?_ _)))).mono ?_; rintro e wn ⟨An, cn, rfl, hrn, hvn, hbn⟩; have hrm2 := RtR.call hrm (by first | exact hbn | exact since_trans (since_alloc (Below.refl _ _) _) hbn); have hsn := hbn.size; have hsvn := hvn.size)
            refine hK.out _ _ (trivial) (fun hHeld3 => ?_)
            clear hK K hHeld2
            try simp only [Act.put, List.setIfInBounds_toArray, List.set_cons_zero, List.set_cons_succ]
            refine wpAnyH_ready (rs := [8]) (by kernel_rfl) (by simp) ?_
            refine cons_list rfl (fun K hK => ?_) AllReadyH.nil
            go_simp
            refine hK.out _ _ (trivial) (fun hHeld4 => ?_)
            clear hK K hHeld3
            try simp only [Act.put, List.setIfInBounds_toArray, List.set_cons_zero, List.set_cons_succ]
            refine wpAnyH_ready (rs := [9]) (by kernel_rfl) (by simp) ?_
            refine cons_list rfl (fun K hK => ?_) AllReadyH.nil
            go_simp
            (go_at_call 26; refine (CT.out _ _ Am cm An cn (by repeat (first | assumption | exact Below.refl _ _ | (refine below_drew ?_) | (refine since_alloc ?_ _))) (by first | exact Rd.new (by simp) rfl | exact ((Rd.new (by simp) rfl).alloc (Nat.le_refl _) _).more (by simp)) (by first | exact hrm2.call ((Below.refl _ _).alloc (Nat.le_refl _) _) | exact hrm2.call (since_alloc ((Below.refl _ _).alloc (Nat.le_refl _) _) _)) (by first | exact hrn.call ((Below.refl _ _).alloc (Nat.le_refl _) _) | exact hrn.call (since_alloc ((Below.refl _ _).alloc (Nat.le_refl _) _) _))).mono ?_; rintro e wp ⟨Ap, cp, rfl, hop, hvp, hbp⟩; have hsp := hbp.size)
            refine hK.out _ _ (trivial) (fun hHeld5 => ?_)
            clear hK K hHeld4
            try simp only [Act.put, List.setIfInBounds_toArray, List.set_cons_zero, List.set_cons_succ]
            refine wpAnyH_ready (rs := [11]) (by kernel_rfl) (by simp) ?_
            refine cons_list rfl (fun K hK => ?_) AllReadyH.nil
            (first | (have kz : wp.heap[wn.heap.size + 1]? = some (.cells #[.int .i64 0, .int .i64 0, .slice none 0 0] 41 (0, 0)) := (by have kk := kept_ab hbp; rw [World.size_alloc] at kk; exact kk); have kr0 := cell_of_row wp _ 0 _ _ _ kz; have kr1 := cell_of_row wp _ 1 _ _ _ kz; have kr2 := cell_of_row wp _ 2 _ _ _ kz; have kf0 := frozen_of_row wp _ 0 _ _ kz; have kf1 := frozen_of_row wp _ 1 _ _ kz; have kf2 := frozen_of_row wp _ 2 _ _ kz) | (have kz : wp.heap[wn.heap.size]? = some (.cells #[.int .i64 0, .int .i64 0, .slice none 0 0] 41 (0, 0)) := kept_ab (since_trans (since_alloc (Below.refl _ _) _) hbp); have kr0 := cell_of_row wp _ 0 _ _ _ kz; have kr1 := cell_of_row wp _ 1 _ _ _ kz; have kr2 := cell_of_row wp _ 2 _ _ _ kz; have kf0 := frozen_of_row wp _ 0 _ _ kz; have kf1 := frozen_of_row wp _ 1 _ _ kz; have kf2 := frozen_of_row wp _ 2 _ _ kz) | (have kz : wp.heap[wm.heap.size]? = some (.cells #[.int .i64 0, .int .i64 0, .slice none 0 0] 41 (0, 0)) := kept_ab (since_trans hbn (since_trans (since_alloc (Below.refl _ _) _) hbp)); have kr0 := cell_of_row wp _ 0 _ _ _ kz; have kr1 := cell_of_row wp _ 1 _ _ _ kz; have kr2 := cell_of_row wp _ 2 _ _ _ kz; have kf0 := frozen_of_row wp _ 0 _ _ kz; have kf1 := frozen_of_row wp _ 1 _ _ kz; have kf2 := frozen_of_row wp _ 2 _ _ kz) | (have kz : wp.heap[v6.heap.size]? = some (.cells #[.int .i64 0, .int .i64 0, .slice none 0 0] 41 (0, 0)) := kept_ab_d (since_trans hbm (since_trans hbn (since_trans (since_alloc (Below.refl _ _) _) hbp))); have kr0 := cell_of_row wp _ 0 _ _ _ kz; have kr1 := cell_of_row wp _ 1 _ _ _ kz; have kr2 := cell_of_row wp _ 2 _ _ _ kz; have kf0 := frozen_of_row wp _ 0 _ _ kz; have kf1 := frozen_of_row wp _ 1 _ _ kz; have kf2 := frozen_of_row wp _ 2 _ _ kz) | skip)
            go_simp
            refine hK.out _ _ (trivial) (fun hHeld6 => ?_)
            clear hK K hHeld5
            try simp only [Act.put, List.setIfInBounds_toArray, List.set_cons_zero, List.set_cons_succ]
            refine wpAnyH_done (by kernel_rfl) ?_ _
            clear hHeld6
            go_wp2
            go_meet
            case rel => (refine ⟨_, Ap, cp, rfl, ?_, ?_⟩; (first | exact new_ab hop | exact put_ab kz hop (by simp only [World.size_alloc, World.size_drew] at *; omega)); (simp only [World.size_alloc, World.size_drew] at hsm hsn hsp; (repeat (first | assumption | (refine below_drew ?_) | (refine since_alloc ?_ _) | (refine Below.setCell ?_ (by dsimp only; omega) _)))))
      · obtain ⟨g, off, cur, e, -⟩ := L6.out.row.2.2.2.2.2 (by have := HLC.out; omega)
        subst e
        have CD : Hid (∀ wy c3, Below v6.heap.size v6 wy → _) := Lib.hid (fun wy c3 hb => CD0.out wy (some ⟨g, off + k * 3, none⟩) c3 hb (HRZ.out _))
        have hck2 : ¬ (c : Int) = (k : Int) := by omega
        have HKL2 := Lib.hid hkL2
        clear hkL2 CD0 HRZ
        refine wp_region_held_drew (S := (fun _ => True)) (by kernel_rfl) (trivial) (fun hHeld0 => ?_)
        refine take_list (i := 0) (v := ?_) rfl (by kernel_rfl) (by kernel_rfl) (by kernel_rfl) (fun _ _ _ h => h) (Or.inl ⟨by rfl, ?_⟩) (by assumption) ?_
        rotate_left
        · (intro w hSw; (try dsimp only at hSw); go_simp; try (with_reducible rfl))
        try simp only [Act.put, List.setIfInBounds_toArray, List.set_cons_zero, List.set_cons_succ]
        refine take_list (i := 1) (v := ?_) rfl (by kernel_rfl) (by kernel_rfl) (by kernel_rfl) (fun _ _ _ h => h) (Or.inl ⟨by rfl, ?_⟩) (by assumption) ?_
        rotate_left
        · (intro w hSw; (try dsimp only at hSw); go_simp; try (with_reducible rfl))
        try simp only [Act.put, List.setIfInBounds_toArray, List.set_cons_zero, List.set_cons_succ]
        refine take_list (i := 2) (v := ?_) rfl (by kernel_rfl) (by kernel_rfl) (by kernel_rfl) (fun _ _ _ h => h) (Or.inl ⟨by rfl, ?_⟩) (by assumption) ?_
        rotate_left
        · (intro w hSw; (try dsimp only at hSw); go_simp; try (with_reducible rfl))
        try simp only [Act.put, List.setIfInBounds_toArray, List.set_cons_zero, List.set_cons_succ]
        refine take_list (i := 4) (v := ?_) rfl (by kernel_rfl) (by kernel_rfl) (by kernel_rfl) (fun _ _ _ h => h) (Or.inl ⟨by rfl, ?_⟩) (by assumption) ?_
        rotate_left
        · (intro w hSw; (try dsimp only at hSw); go_simp; try (with_reducible rfl))
        try simp only [Act.put, List.setIfInBounds_toArray, List.set_cons_zero, List.set_cons_succ]
        refine take_list (i := 5) (v := ?_) rfl (by kernel_rfl) (by kernel_rfl) (by kernel_rfl) (fun _ _ _ h => h) (Or.inl ⟨by rfl, ?_⟩) (by assumption) ?_
        rotate_left
        · (intro w hSw; (try dsimp only at hSw); go_simp; try (with_reducible rfl))
        try simp only [Act.put, List.setIfInBounds_toArray, List.set_cons_zero, List.set_cons_succ]
        refine take_list (i := 6) (v := ?_) rfl (by kernel_rfl) (by kernel_rfl) (by kernel_rfl) (fun _ _ _ h => h) (Or.inl ⟨by rfl, ?_⟩) (by assumption) ?_
        rotate_left
        · (intro w hSw; (try dsimp only at hSw); go_simp; try (with_reducible rfl))
        try simp only [Act.put, List.setIfInBounds_toArray, List.set_cons_zero, List.set_cons_succ]
        refine wpAnyH_ready (rs := [3, 10]) (by kernel_rfl) (by simp) ?_
        refine cons_list rfl (fun K hK => ?_) (cons_list rfl (fun K hK => ?_) AllReadyH.nil)
        ·
          go_simp
          (go_at_call 26; refine (CA.out _ (by repeat (first | assumption | exact Below.refl _ _ | (refine below_drew ?_) | (refine since_alloc ?_ _)))).mono ?_; rintro e wm ⟨Am, cm, rfl, hrm, hvm, hbm⟩; have hsm := hbm.size; have hsv := hvm.size)
          refine hK.out _ _ (trivial) (fun hHeld1 => ?_)
          clear hK K hHeld0
          try simp only [Act.put, List.setIfInBounds_toArray, List.set_cons_zero, List.set_cons_succ]
          refine wpAnyH_ready (rs := [7, 10]) (by kernel_rfl) (by simp) ?_
          refine cons_list rfl (fun K hK => ?_) (cons_list rfl (fun K hK => ?_) AllReadyH.nil)
          ·
            go_simp
            (go_at_call 26; refine (CD.out _ _ (by repeat (first | assumption | exact Below.refl _ _ | (refine below_drew ?_) | (refine since_alloc ?_ _)))).mono ?_; rintro e wn ⟨An, cn, rfl, hrn, hvn, hbn⟩; have hrm2 := RtR.call hrm (by first | exact hbn | exact since_trans (since_alloc (Below.refl _ _) _) hbn); have hsn := hbn.size; have hsvn := hvn.size)
            refine hK.out _ _ (trivial) (fun hHeld2 => ?_)
            clear hK K hHeld1
            try simp only [Act.put, List.setIfInBounds_toArray, List.set_cons_zero, List.set_cons_succ]
            refine wpAnyH_ready (rs := [8, 10]) (by kernel_rfl) (by simp) ?_
            refine cons_list rfl (fun K hK => ?_) (cons_list rfl (fun K hK => ?_) AllReadyH.nil)
            ·
              go_simp
              refine hK.out _ _ (trivial) (fun hHeld3 => ?_)
              clear hK K hHeld2
              try simp only [Act.put, List.setIfInBounds_toArray, List.set_cons_zero, List.set_cons_succ]
              refine wpAnyH_ready (rs := [9, 10]) (by kernel_rfl) (by simp) ?_
              refine cons_list rfl (fun K hK => ?_) (cons_list rfl (fun K hK => ?_) AllReadyH.nil)
              ·
                go_simp
                (go_at_call 26; refine (CT.out _ _ Am cm An cn (by repeat (first | assumption | exact Below.refl _ _ | (refine below_drew ?_) | (refine since_alloc ?_ _))) (by first | exact Rd.new (by simp) rfl | exact ((Rd.new (by simp) rfl).alloc (Nat.le_refl _) _).more (by simp)) (by first | exact hrm2.call ((Below.refl _ _).alloc (Nat.le_refl _) _) | exact hrm2.call (since_alloc ((Below.refl _ _).alloc (Nat.le_refl _) _) _)) (by first | exact hrn.call ((Below.refl _ _).alloc (Nat.le_refl _) _) | exact hrn.call (since_alloc ((Below.refl _ _).alloc (Nat.le_refl _) _) _))).mono ?_; rintro e wp ⟨Ap, cp, rfl, hop, hvp, hbp⟩; have hsp := hbp.size)
                refine hK.out _ _ (trivial) (fun hHeld4 => ?_)
                clear hK K hHeld3
                try simp only [Act.put, List.setIfInBounds_toArray, List.set_cons_zero, List.set_cons_succ]
                refine wpAnyH_ready (rs := [10]) (by kernel_rfl) (by simp) ?_
                refine cons_list rfl (fun K hK => ?_) AllReadyH.nil
                go_simp
                refine hK.out _ _ (trivial) (fun hHeld5 => ?_)
                clear hK K hHeld4
                try simp only [Act.put, List.setIfInBounds_toArray, List.set_cons_zero, List.set_cons_succ]
                refine wpAnyH_ready (rs := [11]) (by kernel_rfl) (by simp) ?_
                refine cons_list rfl (fun K hK => ?_) AllReadyH.nil
                (first | (have kz : wp.heap[wn.heap.size + 1]? = some (.cells #[.int .i64 0, .int .i64 0, .slice none 0 0] 41 (0, 0)) := (by have kk := kept_ab hbp; rw [World.size_alloc] at kk; exact kk); have kr0 := cell_of_row wp _ 0 _ _ _ kz; have kr1 := cell_of_row wp _ 1 _ _ _ kz; have kr2 := cell_of_row wp _ 2 _ _ _ kz; have kf0 := frozen_of_row wp _ 0 _ _ kz; have kf1 := frozen_of_row wp _ 1 _ _ kz; have kf2 := frozen_of_row wp _ 2 _ _ kz) | (have kz : wp.heap[wn.heap.size]? = some (.cells #[.int .i64 0, .int .i64 0, .slice none 0 0] 41 (0, 0)) := kept_ab (since_trans (since_alloc (Below.refl _ _) _) hbp); have kr0 := cell_of_row wp _ 0 _ _ _ kz; have kr1 := cell_of_row wp _ 1 _ _ _ kz; have kr2 := cell_of_row wp _ 2 _ _ _ kz; have kf0 := frozen_of_row wp _ 0 _ _ kz; have kf1 := frozen_of_row wp _ 1 _ _ kz; have kf2 := frozen_of_row wp _ 2 _ _ kz) | (have kz : wp.heap[wm.heap.size]? = some (.cells #[.int .i64 0, .int .i64 0, .slice none 0 0] 41 (0, 0)) := kept_ab (since_trans hbn (since_trans (since_alloc (Below.refl _ _) _) hbp)); have kr0 := cell_of_row wp _ 0 _ _ _ kz; have kr1 := cell_of_row wp _ 1 _ _ _ kz; have kr2 := cell_of_row wp _ 2 _ _ _ kz; have kf0 := frozen_of_row wp _ 0 _ _ kz; have kf1 := frozen_of_row wp _ 1 _ _ kz; have kf2 := frozen_of_row wp _ 2 _ _ kz) | (have kz : wp.heap[v6.heap.size]? = some (.cells #[.int .i64 0, .int .i64 0, .slice none 0 0] 41 (0, 0)) := kept_ab_d (since_trans hbm (since_trans hbn (since_trans (since_alloc (Below.refl _ _) _) hbp))); have kr0 := cell_of_row wp _ 0 _ _ _ kz; have kr1 := cell_of_row wp _ 1 _ _ _ kz; have kr2 := cell_of_row wp _ 2 _ _ _ kz; have kf0 := frozen_of_row wp _ 0 _ _ kz; have kf1 := frozen_of_row wp _ 1 _ _ kz; have kf2 := frozen_of_row wp _ 2 _ _ kz) | skip)
                go_simp
                refine hK.out _ _ (trivial) (fun hHeld6 => ?_)
                clear hK K hHeld5
                try simp only [Act.put, List.setIfInBounds_toArray, List.set_cons_zero, List.set_cons_succ]
                refine wpAnyH_done (by kernel_rfl) ?_ _
                clear hHeld6
                go_wp2
                go_meet
                case rel => (refine ⟨_, Ap, cp, rfl, ?_, ?_⟩; (first | exact new_ab hop | exact put_ab kz hop (by simp only [World.size_alloc, World.size_drew] at *; omega)); (simp only [World.size_alloc, World.size_drew] at hsm hsn hsp; (repeat (first | assumption | (refine below_drew ?_) | (refine since_alloc ?_ _) | (refine Below.setCell ?_ (by dsimp only; omega) _)))))
              ·
                go_simp
                refine hK.out _ _ (trivial) (fun hHeld4 => ?_)
                clear hK K hHeld3
                try simp only [Act.put, List.setIfInBounds_toArray, List.set_cons_zero, List.set_cons_succ]
                refine wpAnyH_ready (rs := [9]) (by kernel_rfl) (by simp) ?_
                refine cons_list rfl (fun K hK => ?_) AllReadyH.nil
                go_simp
                (go_at_call 26; refine (CT.out _ _ Am cm An cn (by repeat (first | assumption | exact Below.refl _ _ | (refine below_drew ?_) | (refine since_alloc ?_ _))) (by first | exact Rd.new (by simp) rfl | exact ((Rd.new (by simp) rfl).alloc (Nat.le_refl _) _).more (by simp)) (by first | exact hrm2.call ((Below.refl _ _).alloc (Nat.le_refl _) _) | exact hrm2.call (since_alloc ((Below.refl _ _).alloc (Nat.le_refl _) _) _)) (by first | exact hrn.call ((Below.refl _ _).alloc (Nat.le_refl _) _) | exact hrn.call (since_alloc ((Below.refl _ _).alloc (Nat.le_refl _) _) _))).mono ?_; rintro e wp ⟨Ap, cp, rfl, hop, hvp, hbp⟩; have hsp := hbp.size)
                refine hK.out _ _ (trivial) (fun hHeld5 => ?_)
                clear hK K hHeld4
                try simp only [Act.put, List.setIfInBounds_toArray, List.set_cons_zero, List.set_cons_succ]
                refine wpAnyH_ready (rs := [11]) (by kernel_rfl) (by simp) ?_
                refine cons_list rfl (fun K hK => ?_) AllReadyH.nil
                (first | (have kz : wp.heap[wn.heap.size + 1]? = some (.cells #[.int .i64 0, .int .i64 0, .slice none 0 0] 41 (0, 0)) := (by have kk := kept_ab hbp; rw [World.size_alloc] at kk; exact kk); have kr0 := cell_of_row wp _ 0 _ _ _ kz; have kr1 := cell_of_row wp _ 1 _ _ _ kz; have kr2 := cell_of_row wp _ 2 _ _ _ kz; have kf0 := frozen_of_row wp _ 0 _ _ kz; have kf1 := frozen_of_row wp _ 1 _ _ kz; have kf2 := frozen_of_row wp _ 2 _ _ kz) | (have kz : wp.heap[wn.heap.size]? = some (.cells #[.int .i64 0, .int .i64 0, .slice none 0 0] 41 (0, 0)) := kept_ab (since_trans (since_alloc (Below.refl _ _) _) hbp); have kr0 := cell_of_row wp _ 0 _ _ _ kz; have kr1 := cell_of_row wp _ 1 _ _ _ kz; have kr2 := cell_of_row wp _ 2 _ _ _ kz; have kf0 := frozen_of_row wp _ 0 _ _ kz; have kf1 := frozen_of_row wp _ 1 _ _ kz; have kf2 := frozen_of_row wp _ 2 _ _ kz) | (have kz : wp.heap[wm.heap.size]? = some (.cells #[.int .i64 0, .int .i64 0, .slice none 0 0] 41 (0, 0)) := kept_ab (since_trans hbn (since_trans (since_alloc (Below.refl _ _) _) hbp)); have kr0 := cell_of_row wp _ 0 _ _ _ kz; have kr1 := cell_of_row wp _ 1 _ _ _ kz; have kr2 := cell_of_row wp _ 2 _ _ _ kz; have kf0 := frozen_of_row wp _ 0 _ _ kz; have kf1 := frozen_of_row wp _ 1 _ _ kz; have kf2 := frozen_of_row wp _ 2 _ _ kz) | (have kz : wp.heap[v6.heap.size]? = some (.cells #[.int .i64 0, .int .i64 0, .slice none 0 0] 41 (0, 0)) := kept_ab_d (since_trans hbm (since_trans hbn (since_trans (since_alloc (Below.refl _ _) _) hbp))); have kr0 := cell_of_row wp _ 0 _ _ _ kz; have kr1 := cell_of_row wp _ 1 _ _ _ kz; have kr2 := cell_of_row wp _ 2 _ _ _ kz; have kf0 := frozen_of_row wp _ 0 _ _ kz; have kf1 := frozen_of_row wp _ 1 _ _ kz; have kf2 := frozen_of_row wp _ 2 _ _ kz) | skip)
                go_simp
                refine hK.out _ _ (trivial) (fun hHeld6 => ?_)
                clear hK K hHeld5
                try simp only [Act.put, List.setIfInBounds_toArray, List.set_cons_zero, List.set_cons_succ]
                refine wpAnyH_done (by kernel_rfl) ?_ _
                clear hHeld6
                go_wp2
                go_meet
                case rel => (refine ⟨_, Ap, cp, rfl, ?_, ?_⟩; (first | exact new_ab hop | exact put_ab kz hop (by simp only [World.size_alloc, World.size_drew] at *; omega)); (simp only [World.size_alloc, World.size_drew] at hsm hsn hsp; (repeat (first | assumption | (refine below_drew ?_) | (refine since_alloc ?_ _) | (refine Below.setCell ?_ (by dsimp only; omega) _)))))
            ·
              go_simp
              refine hK.out _ _ (trivial) (fun hHeld3 => ?_)
              clear hK K hHeld2
              try simp only [Act.put, List.setIfInBounds_toArray, List.set_cons_zero, List.set_cons_succ]
              refine wpAnyH_ready (rs := [8]) (by kernel_rfl) (by simp) ?_
              refine cons_list rfl (fun K hK => ?_) AllReadyH.nil
              go_simp
              refine hK.out _ _ (trivial) (fun hHeld4 => ?_)
              clear hK K hHeld3
              try simp only [Act.put, List.setIfInBounds_toArray, List.set_cons_zero, List.set_cons_succ]
              refine wpAnyH_ready (rs := [9]) (by kernel_rfl) (by simp) ?_
              refine cons_list rfl (fun K hK => ?_) AllReadyH.nil
              go_simp
              (go_at_call 26; refine (CT.out _ _ Am cm An cn (by repeat (first | assumption | exact Below.refl _ _ | (refine below_drew ?_) | (refine since_alloc ?_ _))) (by first | exact Rd.new (by simp) rfl | exact ((Rd.new (by simp) rfl).alloc (Nat.le_refl _) _).more (by simp)) (by first | exact hrm2.call ((Below.refl _ _).alloc (Nat.le_refl _) _) | exact hrm2.call (since_alloc ((Below.refl _ _).alloc (Nat.le_refl _) _) _)) (by first | exact hrn.call ((Below.refl _ _).alloc (Nat.le_refl _) _) | exact hrn.call (since_alloc ((Below.refl _ _).alloc (Nat.le_refl _) _) _))).mono ?_; rintro e wp ⟨Ap, cp, rfl, hop, hvp, hbp⟩; have hsp := hbp.size)
              refine hK.out _ _ (trivial) (fun hHeld5 => ?_)
              clear hK K hHeld4
              try simp only [Act.put, List.setIfInBounds_toArray, List.set_cons_zero, List.set_cons_succ]
              refine wpAnyH_ready (rs := [11]) (by kernel_rfl) (by simp) ?_
              refine cons_list rfl (fun K hK => ?_) AllReadyH.nil
              (first | (have kz : wp.heap[wn.heap.size + 1]? = some (.cells #[.int .i64 0, .int .i64 0, .slice none 0 0] 41 (0, 0)) := (by have kk := kept_ab hbp; rw [World.size_alloc] at kk; exact kk); have kr0 := cell_of_row wp _ 0 _ _ _ kz; have kr1 := cell_of_row wp _ 1 _ _ _ kz; have kr2 := cell_of_row wp _ 2 _ _ _ kz; have kf0 := frozen_of_row wp _ 0 _ _ kz; have kf1 := frozen_of_row wp _ 1 _ _ kz; have kf2 := frozen_of_row wp _ 2 _ _ kz) | (have kz : wp.heap[wn.heap.size]? = some (.cells #[.int .i64 0, .int .i64 0, .slice none 0 0] 41 (0, 0)) := kept_ab (since_trans (since_alloc (Below.refl _ _) _) hbp); have kr0 := cell_of_row wp _ 0 _ _ _ kz; have kr1 := cell_of_row wp _ 1 _ _ _ kz; have kr2 := cell_of_row wp _ 2 _ _ _ kz; have kf0 := frozen_of_row wp _ 0 _ _ kz; have kf1 := frozen_of_row wp _ 1 _ _ kz; have kf2 := frozen_of_row wp _ 2 _ _ kz) | (have kz : wp.heap[wm.heap.size]? = some (.cells #[.int .i64 0, .int .i64 0, .slice none 0 0] 41 (0, 0)) := kept_ab (since_trans hbn (since_trans (since_alloc (Below.refl _ _) _) hbp)); have kr0 := cell_of_row wp _ 0 _ _ _ kz; have kr1 := cell_of_row wp _ 1 _ _ _ kz; have kr2 := cell_of_row wp _ 2 _ _ _ kz; have kf0 := frozen_of_row wp _ 0 _ _ kz; have kf1 := frozen_of_row wp _ 1 _ _ kz; have kf2 := frozen_of_row wp _ 2 _ _ kz) | (have kz : wp.heap[v6.heap.size]? = some (.cells #[.int .i64 0, .int .i64 0, .slice none 0 0] 41 (0, 0)) := kept_ab_d (since_trans hbm (since_trans hbn (since_trans (since_alloc (Below.refl _ _) _) hbp))); have kr0 := cell_of_row wp _ 0 _ _ _ kz; have kr1 := cell_of_row wp _ 1 _ _ _ kz; have kr2 := cell_of_row wp _ 2 _ _ _ kz; have kf0 := frozen_of_row wp _ 0 _ _ kz; have kf1 := frozen_of_row wp _ 1 _ _ kz; have kf2 := frozen_of_row wp _ 2 _ _ kz) | skip)
              go_simp
              refine hK.out _ _ (trivial) (fun hHeld6 => ?_)
              clear hK K hHeld5
              try simp only [Act.put, List.setIfInBounds_toArray, List.set_cons_zero, List.set_cons_succ]
              refine wpAnyH_done (by kernel_rfl) ?_ _
              clear hHeld6
              go_wp2
              go_meet
              case rel => (refine ⟨_, Ap, cp, rfl, ?_, ?_⟩; (first | exact new_ab hop | exact put_ab kz hop (by simp only [World.size_alloc, World.size_drew] at *; omega)); (simp only [World.size_alloc, World.size_drew] at hsm hsn hsp; (repeat (first | assumption | (refine below_drew ?_) | (refine since_alloc ?_ _) | (refine Below.setCell ?_ (by dsimp only; omega) _)))))
          ·
            go_simp
            refine hK.out _ _ (trivial) (fun hHeld2 => ?_)
            clear hK K hHeld1
            try simp only [Act.put, List.setIfInBounds_toArray, List.set_cons_zero, List.set_cons_succ]
            refine wpAnyH_ready (rs := [7]) (by kernel_rfl) (by simp) ?_
            refine cons_list rfl (fun K hK => ?_) AllReadyH.nil
            go_simp
            (go_at_call 26; refine (CD.out _ _ (by repeat (first | assumption | exact Below.refl _ _ | (refine below_drew ?_) | (refine since_alloc ?_ _)))).mono ?_; rintro e wn ⟨An, cn, rfl, hrn, hvn, hbn⟩; have hrm2 := RtR.call hrm (by first | exact hbn | exact since_trans (since_alloc (Below.refl _ _) _) hbn); have hsn := hbn.size; have hsvn := hvn.size)
            refine hK.out _ _ (trivial) (fun hHeld3 => ?_)
            clear hK K hHeld2
            try simp only [Act.put, List.setIfInBounds_toArray, List.set_cons_zero, List.set_cons_succ]
            refine wpAnyH_ready (rs := [8]) (by kernel_rfl) (by simp) ?_
            refine cons_list rfl (fun K hK => ?_) AllReadyH.nil
            go_simp
            refine hK.out _ _ (trivial) (fun hHeld4 => ?_)
            clear hK K hHeld3
            try simp only [Act.put, List.setIfInBounds_toArray, List.set_cons_zero, List.set_cons_succ]
            refine wpAnyH_ready (rs := [9]) (by kernel_rfl) (by simp) ?_
            refine cons_list rfl (fun K hK => ?_) AllReadyH.nil
            go_simp
            (go_at_call 26; refine (CT.out _ _ Am cm An cn (by repeat (first | assumption | exact Below.refl _ _ | (refine below_drew ?_) | (refine since_alloc ?_ _))) (by first | exact Rd.new (by simp) rfl | exact ((Rd.new (by simp) rfl).alloc (Nat.le_refl _) _).more (by simp)) (by first | exact hrm2.call ((Below.refl _ _).alloc (Nat.le_refl _) _) | exact hrm2.call (since_alloc ((Below.refl _ _).alloc (Nat.le_refl _) _) _)) (by first | exact hrn.call ((Below.refl _ _).alloc (Nat.le_refl _) _) | exact hrn.call (since_alloc ((Below.refl _ _).alloc (Nat.le_refl _) _) _))).mono ?_; rintro e wp ⟨Ap, cp, rfl, hop, hvp, hbp⟩; have hsp := hbp.size)
            refine hK.out _ _ (trivial) (fun hHeld5 => ?_)
            clear hK K hHeld4
            try simp only [Act.put, List.setIfInBounds_toArray, List.set_cons_zero, List.set_cons_succ]
            refine wpAnyH_ready (rs := [11]) (by kernel_rfl) (by simp) ?_
            refine cons_list rfl (fun K hK => ?_) AllReadyH.nil
            (first | (have kz : wp.heap[wn.heap.size + 1]? = some (.cells #[.int .i64 0, .int .i64 0, .slice none 0 0] 41 (0, 0)) := (by have kk := kept_ab hbp; rw [World.size_alloc] at kk; exact kk); have kr0 := cell_of_row wp _ 0 _ _ _ kz; have kr1 := cell_of_row wp _ 1 _ _ _ kz; have kr2 := cell_of_row wp _ 2 _ _ _ kz; have kf0 := frozen_of_row wp _ 0 _ _ kz; have kf1 := frozen_of_row wp _ 1 _ _ kz; have kf2 := frozen_of_row wp _ 2 _ _ kz) | (have kz : wp.heap[wn.heap.size]? = some (.cells #[.int .i64 0, .int .i64 0, .slice none 0 0] 41 (0, 0)) := kept_ab (since_trans (since_alloc (Below.refl _ _) _) hbp); have kr0 := cell_of_row wp _ 0 _ _ _ kz; have kr1 := cell_of_row wp _ 1 _ _ _ kz; have kr2 := cell_of_row wp _ 2 _ _ _ kz; have kf0 := frozen_of_row wp _ 0 _ _ kz; have kf1 := frozen_of_row wp _ 1 _ _ kz; have kf2 := frozen_of_row wp _ 2 _ _ kz) | (have kz : wp.heap[wm.heap.size]? = some (.cells #[.int .i64 0, .int .i64 0, .slice none 0 0] 41 (0, 0)) := kept_ab (since_trans hbn (since_trans (since_alloc (Below.refl _ _) _) hbp)); have kr0 := cell_of_row wp _ 0 _ _ _ kz; have kr1 := cell_of_row wp _ 1 _ _ _ kz; have kr2 := cell_of_row wp _ 2 _ _ _ kz; have kf0 := frozen_of_row wp _ 0 _ _ kz; have kf1 := frozen_of_row wp _ 1 _ _ kz; have kf2 := frozen_of_row wp _ 2 _ _ kz) | (have kz : wp.heap[v6.heap.size]? = some (.cells #[.int .i64 0, .int .i64 0, .slice none 0 0] 41 (0, 0)) := kept_ab_d (since_trans hbm (since_trans hbn (since_trans (since_alloc (Below.refl _ _) _) hbp))); have kr0 := cell_of_row wp _ 0 _ _ _ kz; have kr1 := cell_of_row wp _ 1 _ _ _ kz; have kr2 := cell_of_row wp _ 2 _ _ _ kz; have kf0 := frozen_of_row wp _ 0 _ _ kz; have kf1 := frozen_of_row wp _ 1 _ _ kz; have kf2 := frozen_of_row wp _ 2 _ _ kz) | skip)
            go_simp
            refine hK.out _ _ (trivial) (fun hHeld6 => ?_)
            clear hK K hHeld5
            try simp only [Act.put, List.setIfInBounds_toArray, List.set_cons_zero, List.set_cons_succ]
            refine wpAnyH_done (by kernel_rfl) ?_ _
            clear hHeld6
            go_wp2
            go_meet
            case rel => (refine ⟨_, Ap, cp, rfl, ?_, ?_⟩; (first | exact new_ab hop | exact put_ab kz hop (by simp only [World.size_alloc, World.size_drew] at *; omega)); (simp only [World.size_alloc, World.size_drew] at hsm hsn hsp; (repeat (first | assumption | (refine below_drew ?_) | (refine since_alloc ?_ _) | (refine Below.setCell ?_ (by dsimp only; omega) _)))))
        ·
          go_simp
          refine hK.out _ _ (trivial) (fun hHeld1 => ?_)
          clear hK K hHeld0
          try simp only [Act.put, List.setIfInBounds_toArray, List.set_cons_zero, List.set_cons_succ]
          refine wpAnyH_ready (rs := [3]) (by kernel_rfl) (by simp) ?_
          refine cons_list rfl (fun K hK => ?_) AllReadyH.nil
          go_simp
          (go_at_call 26; refine (CA.out _ (by repeat (first | assumption | exact Below.refl _ _ | (refine below_drew ?_) | (refine since_alloc ?_ _)))).mono ?_; rintro e wm ⟨Am, cm, rfl, hrm, hvm, hbm⟩; have hsm := hbm.size; have hsv := hvm.size)
          refine hK.out _ _ (trivial) (fun hHeld2 => ?_)
          clear hK K hHeld1
          try simp only [Act.put, List.setIfInBounds_toArray, List.set_cons_zero, List.set_cons_succ]
          refine wpAnyH_ready (rs := [7]) (by kernel_rfl) (by simp) ?_
          refine cons_list rfl (fun K hK => ?_) AllReadyH.nil
          go_simp
          (go_at_call 26; refine (CD.out _ _ (by repeat (first | assumption | exact Below.refl _ _ | (refine below_drew ?_) | (refine since_alloc ?_ _)))).mono ?_; rintro e wn ⟨An, cn, rfl, hrn, hvn, hbn⟩; have hrm2 := RtR.call hrm (by first | exact hbn | exact since_trans (since_alloc (Below.refl _ _) _) hbn); have hsn := hbn.size; have hsvn := hvn.size)
          refine hK.out _ _ (trivial) (fun hHeld3 => ?_)
          clear hK K hHeld2
          try simp only [Act.put, List.setIfInBounds_toArray, List.set_cons_zero, List.set_cons_succ]
          refine wpAnyH_ready (rs := [8]) (by kernel_rfl) (by simp) ?_
          refine cons_list rfl (fun K hK => ?_) AllReadyH.nil
          go_simp
          refine hK.out _ _ (trivial) (fun hHeld4 => ?_)
          clear hK K hHeld3
          try simp only [Act.put, List.setIfInBounds_toArray, List.set_cons_zero, List.set_cons_succ]
          refine wpAnyH_ready (rs := [9]) (by kernel_rfl) (by simp) ?_
          refine cons_list rfl (fun K hK => ?_) AllReadyH.nil
          go_simp
          (go_at_call 26; refine (CT.out _ _ Am cm An cn (by repeat (first | assumption | exact Below.refl _ _ | (refine below_drew ?_) | (refine since_alloc ?_ _))) (by first | exact Rd.new (by simp) rfl | exact ((Rd.new (by simp) rfl).alloc (Nat.le_refl _) _).more (by simp)) (by first | exact hrm2.call ((Below.refl _ _).alloc (Nat.le_refl _) _) | exact hrm2.call (since_alloc ((Below.refl _ _).alloc (Nat.le_refl _) _) _)) (by first | exact hrn.call ((Below.refl _ _).alloc (Nat.le_refl _) _) | exact hrn.call (since_alloc ((Below.refl _ _).alloc (Nat.le_refl _) _) _))).mono ?_; rintro e wp ⟨Ap, cp, rfl, hop, hvp, hbp⟩; have hsp := hbp.size)
          refine hK.out _ _ (trivial) (fun hHeld5 => ?_)
          clear hK K hHeld4
          try simp only [Act.put, List.setIfInBounds_toArray, List.set_cons_zero, List.set_cons_succ]
          refine wpAnyH_ready (rs := [11]) (by kernel_rfl) (by simp) ?_
          refine cons_list rfl (fun K hK => ?_) AllReadyH.nil
          (first | (have kz : wp.heap[wn.heap.size + 1]? = some (.cells #[.int .i64 0, .int .i64 0, .slice none 0 0] 41 (0, 0)) := (by have kk := kept_ab hbp; rw [World.size_alloc] at kk; exact kk); have kr0 := cell_of_row wp _ 0 _ _ _ kz; have kr1 := cell_of_row wp _ 1 _ _ _ kz; have kr2 := cell_of_row wp _ 2 _ _ _ kz; have kf0 := frozen_of_row wp _ 0 _ _ kz; have kf1 := frozen_of_row wp _ 1 _ _ kz; have kf2 := frozen_of_row wp _ 2 _ _ kz) | (have kz : wp.heap[wn.heap.size]? = some (.cells #[.int .i64 0, .int .i64 0, .slice none 0 0] 41 (0, 0)) := kept_ab (since_trans (since_alloc (Below.refl _ _) _) hbp); have kr0 := cell_of_row wp _ 0 _ _ _ kz; have kr1 := cell_of_row wp _ 1 _ _ _ kz; have kr2 := cell_of_row wp _ 2 _ _ _ kz; have kf0 := frozen_of_row wp _ 0 _ _ kz; have kf1 := frozen_of_row wp _ 1 _ _ kz; have kf2 := frozen_of_row wp _ 2 _ _ kz) | (have kz : wp.heap[wm.heap.size]? = some (.cells #[.int .i64 0, .int .i64 0, .slice none 0 0] 41 (0, 0)) := kept_ab (since_trans hbn (since_trans (since_alloc (Below.refl _ _) _) hbp)); have kr0 := cell_of_row wp _ 0 _ _ _ kz; have kr1 := cell_of_row wp _ 1 _ _ _ kz; have kr2 := cell_of_row wp _ 2 _ _ _ kz; have kf0 := frozen_of_row wp _ 0 _ _ kz; have kf1 := frozen_of_row wp _ 1 _ _ kz; have kf2 := frozen_of_row wp _ 2 _ _ kz) | (have kz : wp.heap[v6.heap.size]? = some (.cells #[.int .i64 0, .int .i64 0, .slice none 0 0] 41 (0, 0)) := kept_ab_d (since_trans hbm (since_trans hbn (since_trans (since_alloc (Below.refl _ _) _) hbp))); have kr0 := cell_of_row wp _ 0 _ _ _ kz; have kr1 := cell_of_row wp _ 1 _ _ _ kz; have kr2 := cell_of_row wp _ 2 _ _ _ kz; have kf0 := frozen_of_row wp _ 0 _ _ kz; have kf1 := frozen_of_row wp _ 1 _ _ kz; have kf2 := frozen_of_row wp _ 2 _ _ kz) | skip)
          go_simp
          refine hK.out _ _ (trivial) (fun hHeld6 => ?_)
          clear hK K hHeld5
          try simp only [Act.put, List.setIfInBounds_toArray, List.set_cons_zero, List.set_cons_succ]
          refine wpAnyH_done (by kernel_rfl) ?_ _
          clear hHeld6
          go_wp2
          go_meet
          case rel => (refine ⟨_, Ap, cp, rfl, ?_, ?_⟩; (first | exact new_ab hop | exact put_ab kz hop (by simp only [World.size_alloc, World.size_drew] at *; omega)); (simp only [World.size_alloc, World.size_drew] at hsm hsn hsp; (repeat (first | assumption | (refine below_drew ?_) | (refine since_alloc ?_ _) | (refine Below.setCell ?_ (by dsimp only; omega) _)))))
  case rest =>
  clear CA CT CD0
  obtain ⟨b7, A7, c7, rfl, hbx, hb7⟩ := hcut
  have Z7 := Lib.hid hbx
  have L7 := Lib.hid (L6.out.call hb7)
  have X7 := Lib.hid (X6.out.call hb7)
  have Y7 := Lib.hid (Y6.out.call hb7)
  have B7 := Lib.hid (since_trans B6.out hb7)
  clear hbx hb7 L6 X6 Y6 B6
  obtain ⟨v7, rfl⟩ : ∃ v, v = wc := ⟨_, rfl⟩
  have HOKM : Hid (∀ x ∈ L.map (·.1), RtOk x) := Lib.hid (fun x hx => by obtain ⟨z, hz, rfl⟩ := List.mem_map.1 hx; exact HOK.out z hz)
  have HBM : Hid (∀ z ∈ L, betterB z.1 (bestR (L.map (·.1))) = false) := Lib.hid (fun z hz => best_min HOKM.out z.1 (List.mem_map.2 ⟨z, hz, rfl⟩))
  have HME : Hid (L ≠ [] → ∃ z ∈ L, z.1 = bestR (L.map (·.1))) := Lib.hid (fun hne => List.mem_map.1 (best_mem HOKM.out (by simpa using hne)))
  have HPT : Hid (0 < k → k < L.length → q3 = bestR (L.map (·.1))) := Lib.hid (fun h1 h2 => by
    have e := best_parts (l := (L.take k).map (·.1)) (m := (L.drop k).map (·.1)) (fun x hx => by obtain ⟨z, hz, rfl⟩ := List.mem_map.1 hx; exact HOK.out z (List.mem_of_mem_take hz)) (fun x hx => by obtain ⟨z, hz, rfl⟩ := List.mem_map.1 hx; exact HOK.out z (List.mem_of_mem_drop hz)) (by intro e; have e2 := congrArg List.length e; simp only [List.length_map, List.length_take, List.length_nil] at e2; omega) (by intro e; have e2 := congrArg List.length e; simp only [List.length_map, List.length_drop, List.length_nil] at e2; omega)
    rw [← List.map_append, List.take_append_drop, HQ1.out, HQ2.out, HQ3.out] at e
    exact e)
  generalize bestR (L.map (·.1)) = r9 at *
  clear HOKM HSH HP1 HP2 HQ1 HQ2 HQ3
  rename_i hKl
  refine hKl _ _ ?_
  clear hKl
  go_upto_region 11 with fail
  go_cut [12] (fun s wx => ∃ hh : Bool, s = .bool hh ∧ wx = v7 ∧ (hh = false → L ≠ []))
  case first =>
    go_wp2_with fail
    go_meet
    case rel => exact ⟨_, rfl, rfl, by intro h e; subst e; simp at h⟩
  case rest =>
  obtain ⟨hh0, rfl, hwc, hh0e⟩ := hcut
  rw [hwc]
  clear hwc wc
  have HH0 := Lib.hid hh0e
  clear hh0e
  rename_i hKl
  refine hKl _ _ ?_
  clear hKl
  have HB7 : Hid (Below v7.heap.size v7 v7) := Lib.hid (Below.refl _ _)
  go_wp2_with fail
  go_loopw [12, 13] (fun sh si wx => ∃ (i : Nat) (hh : Bool), i ≤ L.length ∧ sh = .bool hh ∧ si = .int .i64 i ∧ (hh = false → L ≠ [] ∧ ∀ z ∈ L.take i, z.1 ≠ r9) ∧ Below v7.heap.size v7 wx) (fun _ si _ => L.length - (intOf si).toNat)
  case atStart => exact ⟨0, hh0, by omega, rfl, rfl, fun e => ⟨HH0.out e, by intro z hz; simp at hz⟩, HB7.out⟩
  case round =>
    obtain ⟨i, hh, hi, rfl, rfl, hinv, hbw⟩ := hrel
    have BW := Lib.hid hbw
    have HV := Lib.hid hinv
    clear hbw hinv HH0 HB7
    by_cases hlt : i < L.length
    rotate_left
    · have hge : (L.length : Int) ≤ (i : Int) := by omega
      have hht : hh = true := by
        cases hh with
        | true => rfl
        | false =>
          obtain ⟨h1, h2⟩ := HV.out rfl
          obtain ⟨z, hz, e⟩ := HME.out h1
          rw [List.take_of_length_le (by omega)] at h2
          exact absurd e (h2 z hz)
      subst hht
      have BE := Lib.hid (since_trans B7.out BW.out)
      have CS1 : Hid (∀ wy, Below v7.heap.size v7 wy → Calls Tryd.prog 23 #[.agg #[.int .i64 r9.kind, .int .i64 r9.cost, .slice A5 r9.path.length c5], .agg #[.int .i64 r9.kind, .int .i64 r9.cost, .slice A6 r9.path.length c6]] wy fun e w' => e = .returned (.bool true) ∧ Below wy.heap.size wy w') := Lib.hid (fun wy hb => (refSame_any r9 r9 _ _ _ _ wy (X7.out.call hb).rt (Y7.out.call hb).rt).mono fun e w' ⟨h1, h2⟩ => ⟨by rw [h1]; simp, h2⟩)
      obtain ⟨x0, x1, x2⟩ := (X7.out.call BW.out).at_
      obtain ⟨y0, y1, y2⟩ := (Y7.out.call BW.out).at_
      clear hlt HV
      go_wp2_with fail
      refine (CS1.out _ BW.out).mono ?_
      rintro e wq1 ⟨rfl, hc1⟩
      clear x0 x1 x2 y0 y1 y2
      have BQ := Lib.hid (since_trans BW.out hc1)
      have BE1 := Lib.hid (since_trans BE.out hc1)
      clear hc1
      by_cases hk0 : k = 0
      · subst hk0
        go_wp2_with fail
        go_ret
        exact ⟨rfl, BE1.out⟩
      · have hk0' : ((k : Int) == 0) = false := by simp; omega
        by_cases hkl : k = L.length
        · have hkl' : ((k : Int) == (L.length : Int)) = true := by simp [hkl]
          clear hk0 hkl hkL hge
          go_wp2_with fail
          go_ret
          exact ⟨rfl, BE1.out⟩
        · have hkl' : ((k : Int) == (L.length : Int)) = false := by simp; omega
          have he := HPT.out (by omega) (by omega)
          have CS2 : Hid (∀ wy, Below v7.heap.size v7 wy → Calls Tryd.prog 23 #[.agg #[.int .i64 r9.kind, .int .i64 r9.cost, .slice A5 r9.path.length c5], .agg #[.int .i64 q3.kind, .int .i64 q3.cost, .slice A7 q3.path.length c7]] wy fun e w' => e = .returned (.bool true) ∧ Below wy.heap.size wy w') := Lib.hid (fun wy hb => (refSame_any r9 q3 _ _ _ _ wy (X7.out.call hb).rt (Z7.out.call hb).rt).mono fun e w' ⟨h1, h2⟩ => ⟨by rw [h1, he]; simp, h2⟩)
          obtain ⟨x0, x1, x2⟩ := (X7.out.call BQ.out).at_
          obtain ⟨z0, z1, z2⟩ := (Z7.out.call BQ.out).at_
          clear hk0 hkl hkL hge he
          go_wp2_with fail
          refine (CS2.out _ BQ.out).mono ?_
          rintro e wq2 ⟨rfl, hc2⟩
          have BE2 := Lib.hid (since_trans BE1.out hc2)
          clear x0 x1 x2 z0 z1 z2 hc2
          go_wp2_with fail
          go_ret
          exact ⟨rfl, BE2.out⟩
    · obtain ⟨z, hz⟩ : ∃ z, L[i]? = some z := ⟨_, List.getElem?_eq_getElem hlt⟩
      obtain ⟨b, o, hA, hb, g0, g1, g2⟩ := L7.out.rts.at_ hz
      have HA := Lib.hid hA
      have HI := Lib.hid hlt
      have hmz := List.mem_of_getElem? hz
      have HTK := Lib.hid (show L.take (i + 1) = L.take i ++ [z] by rw [List.take_add_one, hz]; rfl)
      have HC : Hid (∀ wy, Below v7.heap.size v7 wy → (wy.cell? ⟨b5, 0, none⟩ = some (.int .i64 r9.kind) ∧ wy.cell? ⟨b5, 1, none⟩ = some (.int .i64 r9.cost) ∧ wy.cell? ⟨b5, 2, none⟩ = some (.slice A5 r9.path.length c5)) ∧ (wy.cell? ⟨b, o + i * 3, none⟩ = some (.int .i64 z.1.kind) ∧ wy.cell? ⟨b, o + i * 3 + 1, none⟩ = some (.int .i64 z.1.cost) ∧ wy.cell? ⟨b, o + i * 3 + 2, none⟩ = some (.slice z.2.1 z.1.path.length z.2.2))) := Lib.hid (fun wy hb' => ⟨(X7.out.call hb').at_, (hb'.cell (p := ⟨b, _, none⟩) hb).trans g0, (hb'.cell (p := ⟨b, _, none⟩) hb).trans g1, (hb'.cell (p := ⟨b, _, none⟩) hb).trans g2⟩)
      have hbet := HBM.out z hmz
      have C1 : Hid (∀ wy, Below v7.heap.size v7 wy → Calls Tryd.prog 24 #[.agg #[.int .i64 z.1.kind, .int .i64 z.1.cost, .slice z.2.1 z.1.path.length z.2.2], .agg #[.int .i64 r9.kind, .int .i64 r9.cost, .slice A5 r9.path.length c5]] wy fun e w' => e = .returned (.bool false) ∧ Below wy.heap.size wy w') := Lib.hid (fun wy hb' => (better_rt z.1 r9 _ _ _ _ wy ((L7.out.call hb').rts.each z hmz) (X7.out.call hb').rt).mono fun e w' ⟨h1, h2⟩ => ⟨by rw [h1, hbet], h2⟩)
      have C2 : Hid (∀ wy, Below v7.heap.size v7 wy → Calls Tryd.prog 23 #[.agg #[.int .i64 z.1.kind, .int .i64 z.1.cost, .slice z.2.1 z.1.path.length z.2.2], .agg #[.int .i64 r9.kind, .int .i64 r9.cost, .slice A5 r9.path.length c5]] wy fun e w' => e = .returned (.bool (decide (z.1 = r9))) ∧ Below wy.heap.size wy w') := Lib.hid (fun wy hb' => refSame_any z.1 r9 _ _ _ _ wy ((L7.out.call hb').rts.each z hmz) (X7.out.call hb').rt)
      have HD : Hid (hh = false → decide (z.1 = r9) = false → L ≠ [] ∧ ∀ y ∈ L.take (i + 1), y.1 ≠ r9) := Lib.hid (fun h1 h2 => ⟨(HV.out h1).1, fun y hy => by
        rw [HTK.out] at hy
        rcases List.mem_append.1 hy with hy | hy
        · exact (HV.out h1).2 y hy
        · simp at hy; subst hy; simpa using h2⟩)
      have hi0 : (0 : Int) ≤ (i : Int) := by omega
      have hi1 : (i : Int) < (L.length : Int) := by omega
      rw [hA]
      clear hz hA hlt g0 g1 g2 hb hmz hbet HV
      go_upto_region 15 with fail
      go_cut [71] (fun s wx => s = .bool false ∧ Below v7.heap.size v7 wx)
      case first =>
        have hb0 : Below v7.heap.size v7 wr.drew := below_drew BW.out
        refine wp_region_held_drew (S := (fun wy => (wy.cell? ⟨b5, 0, none⟩ = some (.int .i64 r9.kind) ∧ wy.cell? ⟨b5, 1, none⟩ = some (.int .i64 r9.cost) ∧ wy.cell? ⟨b5, 2, none⟩ = some (.slice A5 r9.path.length c5)) ∧ (wy.cell? ⟨b, o + i * 3, none⟩ = some (.int .i64 z.1.kind) ∧ wy.cell? ⟨b, o + i * 3 + 1, none⟩ = some (.int .i64 z.1.cost) ∧ wy.cell? ⟨b, o + i * 3 + 2, none⟩ = some (.slice z.2.1 z.1.path.length z.2.2)))) (by kernel_rfl) (HC.out _ hb0) (fun hHeld0 => ?_)
        refine take_list (i := 0) (v := ?_) rfl (by kernel_rfl) (by kernel_rfl) (by kernel_rfl) (fun _ _ _ h => h) (Or.inl ⟨by rfl, ?_⟩) (by assumption) ?_
        rotate_left
        · (intro w hSw; (try dsimp only at hSw); go_simp; try (with_reducible rfl))
        try simp only [Act.put, List.setIfInBounds_toArray, List.set_cons_zero, List.set_cons_succ]
        refine take_list (i := 1) (v := ?_) rfl (by kernel_rfl) (by kernel_rfl) (by kernel_rfl) (fun _ _ _ h => h) (Or.inl ⟨by rfl, ?_⟩) (by assumption) ?_
        rotate_left
        · (intro w hSw; (try dsimp only at hSw); go_simp; try (with_reducible rfl))
        try simp only [Act.put, List.setIfInBounds_toArray, List.set_cons_zero, List.set_cons_succ]
        refine take_list (i := 2) (v := ?_) rfl (by kernel_rfl) (by kernel_rfl) (by kernel_rfl) (fun _ _ _ h => h) (Or.inl ⟨by rfl, ?_⟩) (by assumption) ?_
        rotate_left
        · (intro w hSw; (try dsimp only at hSw); go_simp; try (with_reducible rfl))
        try simp only [Act.put, List.setIfInBounds_toArray, List.set_cons_zero, List.set_cons_succ]
        refine take_list (i := 3) (v := ?_) rfl (by kernel_rfl) (by kernel_rfl) (by kernel_rfl) (fun _ _ _ h => h) (Or.inl ⟨by rfl, ?_⟩) (by assumption) ?_
        rotate_left
        · (intro w hSw; (try dsimp only at hSw); go_simp; try (with_reducible rfl))
        try simp only [Act.put, List.setIfInBounds_toArray, List.set_cons_zero, List.set_cons_succ]
        refine take_list (i := 4) (v := ?_) rfl (by kernel_rfl) (by kernel_rfl) (by kernel_rfl) (fun _ _ _ h => h) (Or.inl ⟨by rfl, ?_⟩) (by assumption) ?_
        rotate_left
        · (intro w hSw; (try dsimp only at hSw); go_simp; try (with_reducible rfl))
        try simp only [Act.put, List.setIfInBounds_toArray, List.set_cons_zero, List.set_cons_succ]
        refine wpAnyH_ready (rs := [5]) (by kernel_rfl) (by simp) ?_
        refine cons_list rfl (fun K hK => ?_) AllReadyH.nil
        go_simp
        (go_at_call 24; refine (C1.out _ hb0).mono ?_; rintro e wq1 ⟨rfl, hc1⟩; have hb1 := since_trans hb0 hc1)
        refine hK.out _ _ (HC.out _ (by assumption)) (fun hHeld1 => ?_)
        clear hK K hHeld0
        try simp only [Act.put, List.setIfInBounds_toArray, List.set_cons_zero, List.set_cons_succ]
        refine wpAnyH_done (by kernel_rfl) ?_ _
        clear hHeld1
        go_wp2_with fail
        go_meet
        case rel => exact ⟨rfl, hb1⟩
      case rest =>
      obtain ⟨rfl, hbc⟩ := hcut
      have BC := Lib.hid hbc
      clear hbc C1 BW
      go_upto_region 17 with fail
      have hb0 : Below v7.heap.size v7 wc.drew := below_drew BC.out
      generalize decide (z.1 = r9) = dd at *
      cases hh with
      | true =>
        refine wp_region_held_drew (S := (fun wy => (wy.cell? ⟨b5, 0, none⟩ = some (.int .i64 r9.kind) ∧ wy.cell? ⟨b5, 1, none⟩ = some (.int .i64 r9.cost) ∧ wy.cell? ⟨b5, 2, none⟩ = some (.slice A5 r9.path.length c5)) ∧ (wy.cell? ⟨b, o + i * 3, none⟩ = some (.int .i64 z.1.kind) ∧ wy.cell? ⟨b, o + i * 3 + 1, none⟩ = some (.int .i64 z.1.cost) ∧ wy.cell? ⟨b, o + i * 3 + 2, none⟩ = some (.slice z.2.1 z.1.path.length z.2.2)))) (by kernel_rfl) (HC.out _ hb0) (fun hHeld0 => ?_)
        refine take_list (i := 0) (v := ?_) rfl (by kernel_rfl) (by kernel_rfl) (by kernel_rfl) (fun _ _ _ h => h) (Or.inl ⟨by rfl, ?_⟩) (by assumption) ?_
        rotate_left
        · (intro w hSw; (try dsimp only at hSw); go_simp; try (with_reducible rfl))
        try simp only [Act.put, List.setIfInBounds_toArray, List.set_cons_zero, List.set_cons_succ]
        refine take_list (i := 1) (v := ?_) rfl (by kernel_rfl) (by kernel_rfl) (by kernel_rfl) (fun _ _ _ h => h) (Or.inl ⟨by rfl, ?_⟩) (by assumption) ?_
        rotate_left
        · (intro w hSw; (try dsimp only at hSw); go_simp; try (with_reducible rfl))
        try simp only [Act.put, List.setIfInBounds_toArray, List.set_cons_zero, List.set_cons_succ]
        refine take_list (i := 2) (v := undef) rfl (by kernel_rfl) (by kernel_rfl) (by kernel_rfl) (fun _ _ _ h => h) (Or.inr ⟨by rfl, rfl⟩) (by assumption) ?_
        try simp only [Act.put, List.setIfInBounds_toArray, List.set_cons_zero, List.set_cons_succ]
        refine take_list (i := 3) (v := undef) rfl (by kernel_rfl) (by kernel_rfl) (by kernel_rfl) (fun _ _ _ h => h) (Or.inr ⟨by rfl, rfl⟩) (by assumption) ?_
        try simp only [Act.put, List.setIfInBounds_toArray, List.set_cons_zero, List.set_cons_succ]
        refine take_list (i := 4) (v := undef) rfl (by kernel_rfl) (by kernel_rfl) (by kernel_rfl) (fun _ _ _ h => h) (Or.inr ⟨by rfl, rfl⟩) (by assumption) ?_
        try simp only [Act.put, List.setIfInBounds_toArray, List.set_cons_zero, List.set_cons_succ]
        refine take_list (i := 5) (v := undef) rfl (by kernel_rfl) (by kernel_rfl) (by kernel_rfl) (fun _ _ _ h => h) (Or.inr ⟨by rfl, rfl⟩) (by assumption) ?_
        try simp only [Act.put, List.setIfInBounds_toArray, List.set_cons_zero, List.set_cons_succ]
        refine take_list (i := 6) (v := undef) rfl (by kernel_rfl) (by kernel_rfl) (by kernel_rfl) (fun _ _ _ h => h) (Or.inr ⟨by rfl, rfl⟩) (by assumption) ?_
        try simp only [Act.put, List.setIfInBounds_toArray, List.set_cons_zero, List.set_cons_succ]
        refine take_list (i := 7) (v := undef) rfl (by kernel_rfl) (by kernel_rfl) (by kernel_rfl) (fun _ _ _ h => h) (Or.inr ⟨by rfl, rfl⟩) (by assumption) ?_
        try simp only [Act.put, List.setIfInBounds_toArray, List.set_cons_zero, List.set_cons_succ]
        refine take_list (i := 8) (v := ?_) rfl (by kernel_rfl) (by kernel_rfl) (by kernel_rfl) (fun _ _ _ h => h) (Or.inl ⟨by rfl, ?_⟩) (by assumption) ?_
        rotate_left
        · (intro w hSw; (try dsimp only at hSw); go_simp; try (with_reducible rfl))
        try simp only [Act.put, List.setIfInBounds_toArray, List.set_cons_zero, List.set_cons_succ]
        refine take_list (i := 9) (v := ?_) rfl (by kernel_rfl) (by kernel_rfl) (by kernel_rfl) (fun _ _ _ h => h) (Or.inl ⟨by rfl, ?_⟩) (by assumption) ?_
        rotate_left
        · (intro w hSw; (try dsimp only at hSw); go_simp; try (with_reducible rfl))
        try simp only [Act.put, List.setIfInBounds_toArray, List.set_cons_zero, List.set_cons_succ]
        refine wpAnyH_done (by kernel_rfl) ?_ _
        clear hHeld0
        go_wp2_with fail
        go_roundw
        case rel => exact ⟨i + 1, true, by have := HI.out; omega, rfl, by go_num, (by intro e; cases e), hb0⟩
        case measure => have := HI.out; simp [intOf]; omega
      | false =>
        refine wp_region_held_drew (S := (fun wy => (wy.cell? ⟨b5, 0, none⟩ = some (.int .i64 r9.kind) ∧ wy.cell? ⟨b5, 1, none⟩ = some (.int .i64 r9.cost) ∧ wy.cell? ⟨b5, 2, none⟩ = some (.slice A5 r9.path.length c5)) ∧ (wy.cell? ⟨b, o + i * 3, none⟩ = some (.int .i64 z.1.kind) ∧ wy.cell? ⟨b, o + i * 3 + 1, none⟩ = some (.int .i64 z.1.cost) ∧ wy.cell? ⟨b, o + i * 3 + 2, none⟩ = some (.slice z.2.1 z.1.path.length z.2.2)))) (by kernel_rfl) (HC.out _ hb0) (fun hHeld0 => ?_)
        refine take_list (i := 0) (v := ?_) rfl (by kernel_rfl) (by kernel_rfl) (by kernel_rfl) (fun _ _ _ h => h) (Or.inl ⟨by rfl, ?_⟩) (by assumption) ?_
        rotate_left
        · (intro w hSw; (try dsimp only at hSw); go_simp; try (with_reducible rfl))
        try simp only [Act.put, List.setIfInBounds_toArray, List.set_cons_zero, List.set_cons_succ]
        refine take_list (i := 1) (v := ?_) rfl (by kernel_rfl) (by kernel_rfl) (by kernel_rfl) (fun _ _ _ h => h) (Or.inl ⟨by rfl, ?_⟩) (by assumption) ?_
        rotate_left
        · (intro w hSw; (try dsimp only at hSw); go_simp; try (with_reducible rfl))
        try simp only [Act.put, List.setIfInBounds_toArray, List.set_cons_zero, List.set_cons_succ]
        refine take_list (i := 2) (v := ?_) rfl (by kernel_rfl) (by kernel_rfl) (by kernel_rfl) (fun _ _ _ h => h) (Or.inl ⟨by rfl, ?_⟩) (by assumption) ?_
        rotate_left
        · (intro w hSw; (try dsimp only at hSw); go_simp; try (with_reducible rfl))
        try simp only [Act.put, List.setIfInBounds_toArray, List.set_cons_zero, List.set_cons_succ]
        refine take_list (i := 3) (v := ?_) rfl (by kernel_rfl) (by kernel_rfl) (by kernel_rfl) (fun _ _ _ h => h) (Or.inl ⟨by rfl, ?_⟩) (by assumption) ?_
        rotate_left
        · (intro w hSw; (try dsimp only at hSw); go_simp; try (with_reducible rfl))
        try simp only [Act.put, List.setIfInBounds_toArray, List.set_cons_zero, List.set_cons_succ]
        refine take_list (i := 4) (v := ?_) rfl (by kernel_rfl) (by kernel_rfl) (by kernel_rfl) (fun _ _ _ h => h) (Or.inl ⟨by rfl, ?_⟩) (by assumption) ?_
        rotate_left
        · (intro w hSw; (try dsimp only at hSw); go_simp; try (with_reducible rfl))
        try simp only [Act.put, List.setIfInBounds_toArray, List.set_cons_zero, List.set_cons_succ]
        refine take_list (i := 5) (v := ?_) rfl (by kernel_rfl) (by kernel_rfl) (by kernel_rfl) (fun _ _ _ h => h) (Or.inl ⟨by rfl, ?_⟩) (by assumption) ?_
        rotate_left
        · (intro w hSw; (try dsimp only at hSw); go_simp; try (with_reducible rfl))
        try simp only [Act.put, List.setIfInBounds_toArray, List.set_cons_zero, List.set_cons_succ]
        refine take_list (i := 6) (v := ?_) rfl (by kernel_rfl) (by kernel_rfl) (by kernel_rfl) (fun _ _ _ h => h) (Or.inl ⟨by rfl, ?_⟩) (by assumption) ?_
        rotate_left
        · (intro w hSw; (try dsimp only at hSw); go_simp; try (with_reducible rfl))
        try simp only [Act.put, List.setIfInBounds_toArray, List.set_cons_zero, List.set_cons_succ]
        refine wpAnyH_ready (rs := [7]) (by kernel_rfl) (by simp) ?_
        refine cons_list rfl (fun K hK => ?_) AllReadyH.nil
        go_simp
        (go_at_call 23; refine (C2.out _ hb0).mono ?_; rintro e wq1 ⟨rfl, hc1⟩; have hb1 := since_trans hb0 hc1)
        refine hK.out _ _ (HC.out _ (by assumption)) (fun hHeld1 => ?_)
        clear hK K hHeld0
        try simp only [Act.put, List.setIfInBounds_toArray, List.set_cons_zero, List.set_cons_succ]
        refine take_list (i := 8) (v := ?_) rfl (by kernel_rfl) (by kernel_rfl) (by kernel_rfl) (fun _ _ _ h => h) (Or.inl ⟨by rfl, ?_⟩) (by assumption) ?_
        rotate_left
        · (intro w hSw; (try dsimp only at hSw); go_simp; try (with_reducible rfl))
        try simp only [Act.put, List.setIfInBounds_toArray, List.set_cons_zero, List.set_cons_succ]
        refine take_list (i := 9) (v := ?_) rfl (by kernel_rfl) (by kernel_rfl) (by kernel_rfl) (fun _ _ _ h => h) (Or.inl ⟨by rfl, ?_⟩) (by assumption) ?_
        rotate_left
        · (intro w hSw; (try dsimp only at hSw); go_simp; try (with_reducible rfl))
        try simp only [Act.put, List.setIfInBounds_toArray, List.set_cons_zero, List.set_cons_succ]
        refine wpAnyH_done (by kernel_rfl) ?_ _
        clear hHeld1
        go_wp2_with fail
        go_roundw
        case rel => exact ⟨i + 1, dd, by have := HI.out; omega, rfl, by go_num, fun e => HD.out rfl e, hb1⟩
        case measure => have := HI.out; simp [intOf]; omega
end Go.Proofs.YtidmpfenkgihjaaDoor

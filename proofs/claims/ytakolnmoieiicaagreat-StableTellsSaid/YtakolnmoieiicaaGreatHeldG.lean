/- backstaylaw07.Held and backstaylaw09.Held at any network: it may be wrong. -/
import Derived.Test.YtakolnmoieiicaaGreatHeld
import Derived.Test.YtakolnmoieiicaaGreatWayP
import Derived.Test.YtakolnmoieiicaaGreatRoundV
namespace Go.Proofs.YtakolnmoieiicaaGreat
set_option linter.unusedSimpArgs false
set_option linter.unusedVariables false
open Go.RowKit

/-- Unlike numbers from 1 to 20: there are at most twenty. -/
structure Held20 (l : List Int) : Prop where
  nd : l.Nodup
  num : ∀ x ∈ l, 1 ≤ x ∧ x ≤ 20
theorem Held20.nil : Held20 [] := ⟨by simp, by simp⟩
theorem Held20.step (cap a : Int) {l : List Int} (h : Held20 l) (x : Int) : Held20 (stepH cap a l x) := by
  unfold stepH
  split
  · split
    · exact h
    · rename_i hn
      have hn' : 1 + pickV x 20 ∉ l := fun h => hn (.inr h)
      obtain ⟨hp0, hp1⟩ := pickV_in (c := x) (n := 20) (by omega)
      refine ⟨?_, ?_⟩
      · rw [List.nodup_append]
        refine ⟨h.nd, by simp, ?_⟩
        intro y hy z hz hyz
        simp at hz
        subst hz
        exact hn' (hyz ▸ hy)
      · intro y hy
        rcases List.mem_append.1 hy with hy | hy
        · exact h.num y hy
        · simp at hy; omega
  · exact h
theorem Held20.fold (cap a : Int) : ∀ (r l : List Int), Held20 l → Held20 (r.foldl (stepH cap a) l)
  | [], _, h => h
  | x :: r, _, h => Held20.fold cap a r _ (h.step cap a x)
theorem Held20.le {l : List Int} (h : Held20 l) : l.length ≤ 20 := by
  have := Gr.nodup_len l ((List.range 20).map (fun i : Nat => (i : Int) + 1)) h.nd (fun x hx => by
    have := h.num x hx
    rw [List.mem_map]
    exact ⟨(x - 1).toNat, by rw [List.mem_range]; omega, by show ((x - 1).toNat : Int) + 1 = x; omega⟩)
  simpa using this
set_option maxRecDepth 100000 in
set_option maxHeartbeats 2000000 in
theorem held_gen (p : Net) (h : Hd) (i : Nat) (raw : List Int) (A0 : Option Addr) (c0 : Nat) (w : World) (hp : NetR w w.heap.size p h) (hin : i < p.nodes.length) (hr : Rd w w.heap.size 1 A0 raw.length (ints raw)) (hI : ∀ x ∈ raw, In64 x) (hl : raw.length ≤ maxLen) :
    Calls Tryz.prog 26 #[netV p h, .int .i64 (i : Int), .slice A0 raw.length c0] w (HeldPost (heldR p i raw) w) := by
  unfold maxLen at hl
  have HI := Lib.hid hI
  have HH := Lib.hid hr
  obtain ⟨x, hx⟩ : ∃ x, p.nodes[i]? = some x := ⟨_, List.getElem?_eq_getElem hin⟩
  have hax : asOf p i = x.as_ := by simp [asOf, hx]
  obtain ⟨bn, on, en, -, x0, x1⟩ := hp.nodes.node hx
  have hbn : bn < w.heap.size := cell_lt x0
  unfold netV netVal
  by_cases h1 : p.proto = 1
  · have hb1 : (p.proto == 1) = true := by simp [h1]
    clear hI hr x0 x1 hax hx hp en
    rcases raw with _ | ⟨y, raw⟩
    · have HF : Hid (∀ w', Below w.heap.size w w' → HeldPost (heldR p i []) w (.returned (rtV ⟨1, 0, []⟩ none 0)) w') := Lib.hid (fun w' hb => by unfold heldR; rw [if_pos h1]; exact ⟨none, 0, rfl, Own.nil _ _ _ _, hb⟩)
      clear h1
      go_enter Tryz.func26, Tryz.ntmps26
      go_wp2
      exact bodyPost_ret (v := rtV ⟨1, 0, []⟩ none 0) (by simp [results, Tryz.results26, go_sem, rtV]) rfl (HF.out _ (by go_grown))
    · obtain ⟨b0, o0, rfl, -, hc0⟩ := HH.out.one (i := 0) (x := .int .i64 y) (by simp [ints])
      have HF : Hid (∀ w', Below w.heap.size w w' → HeldPost (heldR p i (y :: raw)) w (.returned (rtV ⟨1, pickV y 16, []⟩ none 0)) w') := Lib.hid (fun w' hb => by unfold heldR; rw [if_pos h1]; exact ⟨none, 0, rfl, Own.nil _ _ _ _, hb⟩)
      have hyI := Lib.hid (HI.out y (by simp))
      have hl0 : (0 : Int) < (((y :: raw).length : Nat) : Int) := by simp
      simp only [Nat.add_zero] at hc0
      have hb0 : b0 < w.heap.size := cell_lt hc0
      have hcW : (((w.alloc (.cells #[.int .i64 p.proto, .int .i64 p.cap, .int .i64 p.k, .slice h.an p.nodes.length h.cn, .slice h.al p.links.length h.cl, .slice h.ad p.dests.length h.cd, .slice h.ac p.checks.length h.cc] 30)).alloc (.cells #[.int .i64 0, .int .i64 0, .slice none 0 0] 48)).alloc (.cells #[.int .i64 1, .int .i64 0, .slice none 0 0] 48)).cell? ⟨b0, o0, none⟩ = some (.int .i64 y) :=
        ((show Below w.heap.size w _ by go_grown).cell (p := ⟨b0, o0, none⟩) hb0).trans hc0
      clear hc0
      generalize (y :: raw).length = n at *
      clear h1
      go_enter Tryz.func26, Tryz.ntmps26
      go_wp2_with (go_at_call 55; refine (pick7_any _ 16 _ hyI.out (by omega) (by omega)).mono ?_; rintro e w' ⟨rfl, rfl⟩)
      exact bodyPost_ret (v := rtV ⟨1, pickV y 16, []⟩ none 0) (by simp [results, Tryz.results26, go_sem, rtV]) rfl (HF.out _ (by go_grown))
  · have hb1 : (p.proto == 1) = false := by simp [h1]
    have HR := Lib.hid (show heldR p i raw = ⟨2, 0, raw.foldl (stepH p.cap x.as_) []⟩ from by unfold heldR; rw [if_neg h1, hax])
    have HX : Hid (∀ wy, Below w.heap.size w wy → wy.cell? ⟨bn, on + i * 2 + 1, none⟩ = some (.int .i64 x.as_)) := Lib.hid (fun wy hb => (hb.cell (p := ⟨bn, on + i * 2 + 1, none⟩) hbn).trans x1)
    have HE := Lib.hid en
    have hi0 : (0 : Int) ≤ (i : Int) := by omega
    have hi1 : (i : Int) < (p.nodes.length : Int) := by omega
    obtain ⟨ii0, hii0, hzz0, hzs0, hzb0⟩ := info_parts Tryz.info_int
    clear h1 hax hI hr x0 x1 hx hp en
    go_enter Tryz.func26, Tryz.ntmps26
    go_wp2_with fail
    go_loopw [8] (fun si wr => ∃ (k : Nat) (l : List Int) (A : Option Addr) (c : Nat), k ≤ raw.length ∧ si = .int .i64 (k : Int) ∧ l = (raw.take k).foldl (stepH p.cap x.as_) [] ∧ HeldW w wr p h l A c) (fun si _ => raw.length - (intOf si).toNat)
    case atStart => exact ⟨0, [], none, 0, Nat.zero_le _, rfl, rfl, HeldW.begin w p h⟩
    case round =>
      obtain ⟨k, l, A, c, hk, rfl, hlf, hW⟩ := hrel
      have HLF := Lib.hid hlf
      have h12 : l.length ≤ 20 := by rw [hlf]; exact (Held20.fold p.cap x.as_ _ [] Held20.nil).le
      have HW := Lib.hid hW
      have hsz := hW.size
      have ha2 := hW.at2
      obtain ⟨p0, p1, p3⟩ := hW.plan
      rw [HE.out] at p3
      have hxx := HX.out _ hW.bl.below
      clear hlf
      by_cases hlt : k < raw.length
      · have hltz : (k : Int) < (raw.length : Int) := by omega
        by_cases hlc : (l.length : Int) < p.cap
        · obtain ⟨y, hy⟩ : ∃ y, raw[k]? = some y := ⟨_, List.getElem?_eq_getElem hlt⟩
          obtain ⟨b', o', rfl, _, hcy⟩ := (HH.out.below hW.bl.below (Nat.le_refl _)).one (i := k) (x := .int .i64 y) (by simp [ints, hy])
          have hyI := Lib.hid (HI.out y (List.mem_of_getElem? hy))
          have HS := Lib.hid (show (raw.take (k + 1)).foldl (stepH p.cap x.as_) [] = stepH p.cap x.as_ l y from by rw [List.take_add_one, hy]; simp [← HLF.out])
          have hk0 : (0 : Int) ≤ (k : Int) := by omega
          have hp20 := pickV_in (c := y) (n := 20) (by omega)
          obtain ⟨hp0, hp1⟩ := hp20
          clear hy hW
          go_upto_region 12 with (go_at_call 55; refine (pick7_any _ 20 _ hyI.out (by omega) (by omega)).mono ?_; rintro e w' ⟨rfl, rfl⟩)
          generalize hnn : 1 + pickV y 20 = nn at *
          have HNN := Lib.hid hnn
          clear hnn hp0 hp1
          go_wp2_with fail
          go_loop [10, 11] (fun here q => ∃ (n : Nat) (hb : Bool), n ≤ l.length ∧ q = .int .i64 n ∧ here = .bool hb ∧ hb = (decide (nn = x.as_) || decide (nn ∈ l.take n))) (fun _ q => l.length - (intOf q).toNat)
          case atStart => exact ⟨0, decide (nn = x.as_), Nat.zero_le _, rfl, by congr 1; try (rw [Bool.eq_iff_iff]; simp), by simp⟩
          case round =>
            obtain ⟨n, hb, hn, rfl, rfl, hbe⟩ := hrel
            have HEE := Lib.hid hbe
            clear hbe
            by_cases hnl : n < l.length
            · obtain ⟨z, hz⟩ : ∃ z, l[n]? = some z := ⟨_, List.getElem?_eq_getElem hnl⟩
              obtain ⟨b3, o3, e3, _, hcz⟩ := HW.out.own.rd.one (i := n) (x := .int .i64 z) (by simp [ints, hz])
              have HA := Lib.hid e3
              rw [e3] at ha2
              have HT := Lib.hid (show (decide (nn = x.as_) || decide (nn ∈ l.take (n + 1))) = (hb || decide (z = nn)) from by
                rw [List.take_add_one, hz, HEE.out, Bool.or_assoc]
                congr 1
                rw [Bool.eq_iff_iff]
                simp
                constructor
                · rintro (h | h)
                  · exact .inl h
                  · exact .inr h.symm
                · rintro (h | h)
                  · exact .inl h
                  · exact .inr h.symm)
              clear hz e3
              cases hb with
              | true =>
                go_wp2_with fail
                go_round
                case rel => exact ⟨n + 1, true, by omega, by go_num, rfl, by rw [HT.out]; rfl⟩
                case measure => simp [intOf]; omega
              | false =>
                go_wp2_with fail
                go_round
                case rel => exact ⟨n + 1, _, by omega, by go_num, rfl, by rw [HT.out]; rw [Bool.eq_iff_iff]; simp⟩
                case measure => simp [intOf]; omega
            · have hbl : hb = (decide (nn = x.as_) || decide (nn ∈ l)) := by
                have := HEE.out
                rwa [List.take_of_length_le (by omega)] at this
              cases hb with
              | true =>
                have HF := Lib.hid (show stepH p.cap x.as_ l y = l from by unfold stepH; rw [if_pos hlc, HNN.out, if_pos (by simpa using hbl.symm)])
                clear hbl
                go_wp2_with fail
                go_roundw
                case rel => exact ⟨k + 1, l, A, c, by omega, by go_num, by rw [HS.out, HF.out], HW.out⟩
                case measure => simp [intOf]; omega
              | false =>
                have HF := Lib.hid (show stepH p.cap x.as_ l y = l ++ [nn] from by unfold stepH; rw [if_pos hlc, HNN.out, if_neg (by simpa using hbl.symm)])
                clear hbl
                go_wp2_with (at_builtin; refine wpList_app _ rfl _ _ 22 rfl (w.heap.size + 3) 3 ii0 (.int .i64 0) 1 8 Tryz.underlying22 hii0 hzz0 hzs0 hzb0 rfl (by decide) _ _ _ (ints l) rfl (by exact (HW.out.alloc _).own) _ 1 _ [.int .i64 nn] rfl (Rd.new (by simp) rfl) (by intro u hu; simp at hu; subst hu; rfl) (by unfold maxLen; omega) (by omega) (by simp; omega) ?_; intro A2 c2 w2 hown2 hgrow2 hblk2 _; (have d2 := (HW.out.alloc _).cell2 hgrow2); (have e2 := (HW.out.alloc _).free2 hgrow2 2); (have W2 := (HW.out.alloc _).app (by rfl) hgrow2 hown2))
                clear hgrow2 hown2 hblk2 d2 e2
                go_roundw
                case rel => exact ⟨k + 1, _, A2, c2, by omega, by go_num, by rw [HS.out, HF.out], W2⟩
                case measure => simp [intOf]; omega
        · have HP := Lib.hid (HW.out.answer (r := heldR p i raw) (by rw [HR.out]; congr 1; rw [← List.take_append_drop k raw, List.foldl_append, ← HLF.out, stopH_fold _ _ hlc]))
          obtain ⟨m0, m1, m2⟩ := HW.out.rAt
          obtain ⟨r0, r1, r2⟩ := HW.out.resAt
          have rf0 := HW.out.resFree 0
          have rf1 := HW.out.resFree 1
          have rf2 := HW.out.resFree 2
          clear hW
          go_wp2
          exact bodyPost_ret (v := rtV ⟨2, 0, l⟩ A c) (by simp [results, Tryz.results26, go_sem, rtV, m0, m1, m2, r0, r1, r2]) rfl HP.out
      · have hge : ¬ (k : Int) < (raw.length : Int) := by omega
        have hkl : k = raw.length := by omega
        have HP := Lib.hid (HW.out.answer (r := heldR p i raw) (by rw [HR.out]; congr 1; rw [HLF.out, hkl, List.take_length]))
        obtain ⟨m0, m1, m2⟩ := HW.out.rAt
        obtain ⟨r0, r1, r2⟩ := HW.out.resAt
        have rf0 := HW.out.resFree 0
        have rf1 := HW.out.resFree 1
        have rf2 := HW.out.resFree 2
        clear hW hkl
        go_wp2
        exact bodyPost_ret (v := rtV ⟨2, 0, l⟩ A c) (by simp [results, Tryz.results26, go_sem, rtV, m0, m1, m2, r0, r1, r2]) rfl HP.out
attribute [local go_sem ↓] Go.wp_at_zero Go.wp_at_succ
set_option maxRecDepth 100000 in
set_option maxHeartbeats 4000000 in
theorem held9_gen (p : Net) (h : Hd) (R : List (List Int)) (V : List (Option Addr × Nat)) (A : Option Addr) (c : Nat) (w : World) (hp : NetR w w.heap.size p h) (hs : Small p) (hr : RowsIn w A c R V) :
    Calls Tryz.prog 13 #[netV p h, .slice A R.length c] w (StsPost w (stL p (heldS p R))) := by
  have P1 : Hid (AtRight w p h (w.alloc (.cells #[.int .i64 p.proto, .int .i64 p.cap, .int .i64 p.k, .slice h.an p.nodes.length h.cn, .slice h.al p.links.length h.cl, .slice h.ad p.dests.length h.cd, .slice h.ac p.checks.length h.cc] 30))) := Lib.hid (AtRight.begin hp)
  have hn12 := hs.nodes
  have hRm : R.length ≤ maxLen := Nat.le_trans hr.le hr.max
  unfold maxLen at hRm
  have HR := Lib.hid (hr.call ((Below.refl _ _).alloc (Nat.le_refl _) (.cells #[.int .i64 p.proto, .int .i64 p.cap, .int .i64 p.k, .slice h.an p.nodes.length h.cn, .slice h.al p.links.length h.cl, .slice h.ad p.dests.length h.cd, .slice h.ac p.checks.length h.cc] 30)))
  obtain ⟨i3, hi3, hz3, hs3, hb3⟩ := info_parts Tryz.info_rt
  clear hp hs hr
  unfold netV netVal
  go_enter Tryz.func13, Tryz.ntmps13
  go_wp2_with fail
  generalize w.alloc (.cells #[.int .i64 p.proto, .int .i64 p.cap, .int .i64 p.k, .slice h.an p.nodes.length h.cn, .slice h.al p.links.length h.cl, .slice h.ad p.dests.length h.cd, .slice h.ac p.checks.length h.cc] 30) = w1 at *
  go_loopw [5, 6] (fun sl si wx => ∃ (k : Nat) (L : List RtZ) (A : Option Addr) (c : Nat), k ≤ p.nodes.length ∧ L.length = k ∧ si = .int .i64 k ∧ sl = .slice A L.length c ∧ L.map (·.1) = (List.range k).map (heldS p R) ∧ LW w1 wx L A c) (fun _ si _ => p.nodes.length - (intOf si).toNat)
  case atStart => exact ⟨0, [], none, 0, Nat.zero_le _, rfl, rfl, rfl, rfl, LW.begin (Below.refl _ _)⟩
  case round =>
    obtain ⟨k, L, A0, c0', hk, hLk, rfl, rfl, hmap, hL⟩ := hrel
    have LX := Lib.hid hL
    have MX := Lib.hid hmap
    have HLk := Lib.hid hLk
    have hL12 : L.length ≤ 1000 := by omega
    have P2 := Lib.hid (P1.out.call hL.below)
    have R2 := Lib.hid (HR.out.call hL.below)
    obtain ⟨c0, c1, c2', c3, c4, c5, c6⟩ := P2.out.all
    have hLs := hL.below.size
    clear hL hmap hLk
    by_cases hlt : k < p.nodes.length
    · have hk0 : (0 : Int) ≤ (k : Int) := by omega
      have LB := Lib.hid (LX.out.alloc (.cells #[.int .i64 0, .int .i64 0, .slice none 0 0] 48))
      have hsz : wr.heap.size < (wr.alloc (.cells #[.int .i64 0, .int .i64 0, .slice none 0 0] 48)).heap.size := by simp
      by_cases hkR : k < R.length
      · obtain ⟨z, hz⟩ : ∃ z, (R.zip V)[k]? = some z := ⟨_, List.getElem?_eq_getElem (by have := R2.out.len; rw [List.length_zip]; omega)⟩
        obtain ⟨b, o, rfl, hb, hc⟩ := R2.out.row.one (i := k) (x := rowV z) (by rw [List.getElem?_map, hz]; rfl)
        have IR := Lib.hid (R2.out.each z (List.mem_of_getElem? hz))
        have hz1 : R[k]? = some z.1 := (List.getElem?_zip_eq_some.1 (show (R.zip V)[k]? = some (z.1, z.2) from hz)).1
        have HS : Hid (heldS p R k = heldOne p k z.1) := Lib.hid (by unfold heldS; rw [hz1])
        have HZV := Lib.hid (show ((R.zip V).map rowV)[k]? = some (rowV z) from by rw [List.getElem?_map, hz]; rfl)
        unfold rowV at hc
        have hk1 : (k : Int) < (R.length : Int) := by omega
        clear hz hz1
        by_cases h3 : z.1.length % 3 = 0
        · have hq : ¬ (0 : Int) < (z.1.length : Int) % 3 := by omega
          have HM := Lib.hid (show (L ++ [((rtNone, (none, 0)) : RtZ)]).map (·.1) = (List.range (k + 1)).map (heldS p R) from by rw [List.map_append, MX.out, range_snoc, HS.out, heldOne_none h3]; rfl)
          clear h3
          go_wp2_with ((at_builtin; go_loud (refine wpList_app _ rfl _ _ 37 rfl (w1.heap.size) 48 i3 _ 3 40 Tryz.underlying37 hi3 hz3 hs3 hb3 rfl (by decide) _ _ _ (L.flatMap rtCells) rfl (LB.out.alloc _).row _ 1 _ (rtCells ((rtNone, (none, 0)) : RtZ)) rfl (Rd.new (by simp) rfl) ?h1 ?h63 ?hby ?hB ?_); go_loud (case h1 => intro u hu; simp [rtCells] at hu; rcases hu with rfl | rfl | rfl <;> rfl); go_loud (case h63 => unfold maxLen; omega); go_loud (case hby => omega); go_loud (case hB => have := LB.out.below.size; simp; omega); intro A2 c2 w5 hown2 hgrow2 hblk2 _; go_loud (have L5 := Lib.hid (LW.app (z := ((rtNone, (none, 0)) : RtZ)) (LB.out.alloc _) (show w1.heap.size ≤ wr.heap.size from hLs) (OwnOr.alloc (B := wr.heap.size) (.inr ⟨rfl, Nat.zero_le _⟩) _) (by rfl) hgrow2 hown2))); clear hown2 hgrow2 hblk2)
          go_roundw
          case rel => exact ⟨k + 1, _, A2, c2, by omega, by have := HLk.out; simp; omega, by go_num, by simp, HM.out, L5.out⟩
          case measure => simp [intOf]; omega
        · have hq : (0 : Int) < (z.1.length : Int) % 3 := by omega
          have HM := Lib.hid (show ∀ q, (L ++ [((heldR p k z.1, q) : RtZ)]).map (·.1) = (List.range (k + 1)).map (heldS p R) from fun q => by rw [List.map_append, MX.out, range_snoc, HS.out, heldOne_some h3]; rfl)
          clear h3
          have HC : Hid (∀ wy, Below wr.heap.size wr wy → wy.cell? ⟨w.heap.size, 0, none⟩ = some (.int .i64 p.proto) ∧ wy.cell? ⟨w.heap.size, 1, none⟩ = some (.int .i64 p.cap) ∧ wy.cell? ⟨w.heap.size, 2, none⟩ = some (.int .i64 p.k) ∧ wy.cell? ⟨w.heap.size, 3, none⟩ = some (.slice h.an p.nodes.length h.cn) ∧ wy.cell? ⟨w.heap.size, 4, none⟩ = some (.slice h.al p.links.length h.cl) ∧ wy.cell? ⟨w.heap.size, 5, none⟩ = some (.slice h.ad p.dests.length h.cd) ∧ wy.cell? ⟨w.heap.size, 6, none⟩ = some (.slice h.ac p.checks.length h.cc) ∧ wy.cell? ⟨b, o + k, none⟩ = some (.slice z.2.1 z.1.length z.2.2)) := Lib.hid (fun wy hb' => by
            obtain ⟨q0, q1, q2, q3, q4, q5, q6⟩ := (P2.out.call hb').all
            exact ⟨q0, q1, q2, q3, q4, q5, q6, (hb'.cell (p := ⟨b, o + k, none⟩) hb).trans hc⟩)
          have hB0 := (Bl.begin wr).push rfl (.cells #[.int .i64 0, .int .i64 0, .slice none 0 0] 48)
          rw [List.nil_append] at hB0
          have HB0 := Lib.hid hB0
          have CH : Hid (∀ wy, Bl wr wy [.cells #[.int .i64 0, .int .i64 0, .slice none 0 0] 48] → Calls Tryz.prog 26 #[.agg #[.int .i64 p.proto, .int .i64 p.cap, .int .i64 p.k, .slice h.an p.nodes.length h.cn, .slice h.al p.links.length h.cl, .slice h.ad p.dests.length h.cd, .slice h.ac p.checks.length h.cc], .int .i64 (k : Int), .slice z.2.1 z.1.length z.2.2] wy fun e w' => ∃ A5 c5, e = .returned (.agg #[.int .i64 (heldR p k z.1).kind, .int .i64 (heldR p k z.1).cost, .slice A5 (heldR p k z.1).path.length c5]) ∧ OwnOr w' (wr.heap.size + 1) A5 c5 (heldR p k z.1).path ∧ Bl wr w' [.cells #[.int .i64 0, .int .i64 0, .slice none 0 0] 48]) := Lib.hid (fun wy a =>
            (held_gen p h k z.1 z.2.1 z.2.2 wy (P2.out.call a.below).net hlt (IR.out.call a.below).rd IR.out.in64 IR.out.len).mono fun e w' ⟨A5, c5, h1, h2, h3⟩ => ⟨A5, c5, h1, .inl (h2.more (by have := a.lt (i := 0) (by simp); omega)), a.call h3⟩)
          generalize heldR p k z.1 = r at *
          go_upto_region 7 with fail
          clear hc c0 c1 c2' c3 c4 c5 c6 hB0
          have hBd := HB0.out.drew
          refine wp_region_held_drew (S := (fun wy => wy.cell? ⟨w.heap.size, 0, none⟩ = some (.int .i64 p.proto) ∧ wy.cell? ⟨w.heap.size, 1, none⟩ = some (.int .i64 p.cap) ∧ wy.cell? ⟨w.heap.size, 2, none⟩ = some (.int .i64 p.k) ∧ wy.cell? ⟨w.heap.size, 3, none⟩ = some (.slice h.an p.nodes.length h.cn) ∧ wy.cell? ⟨w.heap.size, 4, none⟩ = some (.slice h.al p.links.length h.cl) ∧ wy.cell? ⟨w.heap.size, 5, none⟩ = some (.slice h.ad p.dests.length h.cd) ∧ wy.cell? ⟨w.heap.size, 6, none⟩ = some (.slice h.ac p.checks.length h.cc) ∧ wy.cell? ⟨b, o + k, none⟩ = some (.slice z.2.1 z.1.length z.2.2))) (by kernel_rfl) (HC.out _ hBd.below) (fun hHeld0 => ?_)
          refine take_list (i := 0) (v := ?_) rfl (by kernel_rfl) (by kernel_rfl) (by kernel_rfl) (fun _ _ _ h => h) (Or.inl ⟨by rfl, ?_⟩) (by assumption) ?_
          rotate_left
          · (intro w hSw; (try dsimp only at hSw); go_simp; try (with_reducible rfl))
          try simp only [Act.put, List.setIfInBounds_toArray, List.set_cons_zero, List.set_cons_succ]
          refine take_list (i := 1) (v := ?_) rfl (by kernel_rfl) (by kernel_rfl) (by kernel_rfl) (fun _ _ _ h => h) (Or.inl ⟨by rfl, ?_⟩) (by assumption) ?_
          rotate_left
          · (intro w hSw; (try dsimp only at hSw); go_simp; try (with_reducible rfl))
          try simp only [Act.put, List.setIfInBounds_toArray, List.set_cons_zero, List.set_cons_succ]
          refine take_list (i := 2) (v := ?_) rfl (by kernel_rfl) (by kernel_rfl) (by kernel_rfl) (fun _ _ _ h => h) (Or.inl ⟨by rfl, ?_⟩) (by assumption) ?_
          rotate_left
          · (intro w hSw; (try dsimp only at hSw); go_simp; try (with_reducible rfl))
          try simp only [Act.put, List.setIfInBounds_toArray, List.set_cons_zero, List.set_cons_succ]
          refine take_list (i := 3) (v := ?_) rfl (by kernel_rfl) (by kernel_rfl) (by kernel_rfl) (fun _ _ _ h => h) (Or.inl ⟨by rfl, ?_⟩) (by assumption) ?_
          rotate_left
          · (intro w hSw; (try dsimp only at hSw); go_simp; try (with_reducible rfl))
          try simp only [Act.put, List.setIfInBounds_toArray, List.set_cons_zero, List.set_cons_succ]
          refine take_list (i := 4) (v := ?_) rfl (by kernel_rfl) (by kernel_rfl) (by kernel_rfl) (fun _ _ _ h => h) (Or.inl ⟨by rfl, ?_⟩) (by assumption) ?_
          rotate_left
          · (intro w hSw; (try dsimp only at hSw); go_simp; try (with_reducible rfl))
          try simp only [Act.put, List.setIfInBounds_toArray, List.set_cons_zero, List.set_cons_succ]
          refine take_list (i := 5) (v := ?_) rfl (by kernel_rfl) (by kernel_rfl) (by kernel_rfl) (fun _ _ _ h => h) (Or.inl ⟨by rfl, ?_⟩) (by assumption) ?_
          rotate_left
          · (intro w hSw; (try dsimp only at hSw); go_simp; try (with_reducible rfl))
          try simp only [Act.put, List.setIfInBounds_toArray, List.set_cons_zero, List.set_cons_succ]
          refine wpAnyH_ready (rs := [6]) (by kernel_rfl) (by simp) ?_
          refine cons_list rfl (fun K hK => ?_) AllReadyH.nil
          go_simp
          (go_at_call 26; refine (CH.out _ hBd).mono ?_; rintro e w4 ⟨A5, c5, rfl, ho5, hB5⟩; have kz := hB5.at_ 0 _ rfl; rw [Nat.add_zero] at kz; have kr0 := cell_of_row w4 _ 0 _ _ _ kz; have kr1 := cell_of_row w4 _ 1 _ _ _ kz; have kr2 := cell_of_row w4 _ 2 _ _ _ kz; have kf0 := frozen_of_row w4 _ 0 _ _ kz; have kf1 := frozen_of_row w4 _ 1 _ _ kz; have kf2 := frozen_of_row w4 _ 2 _ _ kz; have hB6 := ((hB5.below.setCell (p := ⟨wr.heap.size, 0, none⟩) (Nat.le_refl _) (.int .i64 r.kind)).setCell (p := ⟨wr.heap.size, 1, none⟩) (Nat.le_refl _) (.int .i64 r.cost)).setCell (p := ⟨wr.heap.size, 2, none⟩) (Nat.le_refl _) (.slice A5 r.path.length c5))
          refine hK.out _ _ (HC.out _ (by first | exact hB5.below | exact hB6)) (fun hHeld1 => ?_)
          clear hK K hHeld0
          try simp only [Act.put, List.setIfInBounds_toArray, List.set_cons_zero, List.set_cons_succ]
          refine wpAnyH_ready (rs := [7]) (by kernel_rfl) (by simp) ?_
          refine cons_list rfl (fun K hK => ?_) AllReadyH.nil
          go_simp
          refine hK.out _ _ (HC.out _ (by first | exact hB5.below | exact hB6)) (fun hHeld2 => ?_)
          clear hK K hHeld1
          try simp only [Act.put, List.setIfInBounds_toArray, List.set_cons_zero, List.set_cons_succ]
          refine wpAnyH_done (by kernel_rfl) ?_ _
          clear hHeld2
          have hbx := box_put (k := r.kind) (co := r.cost) kz ho5 (Nat.lt_succ_self _) (Nat.le_refl _)
          obtain ⟨hbx, ho6⟩ := hbx
          have HO6 := Lib.hid ho6
          have L6 := Lib.hid (LX.out.call hB6)
          clear kz kr0 kr1 kr2 kf0 kf1 kf2 ho5 hB5 hBd
          generalize (((w4.setCell ⟨wr.heap.size, 0, none⟩ (.int .i64 r.kind)).setCell ⟨wr.heap.size, 1, none⟩ (.int .i64 r.cost)).setCell ⟨wr.heap.size, 2, none⟩ (.slice A5 r.path.length c5)) = w6 at *
          have kr0 := cell_of_row w6 _ 0 _ _ _ hbx
          have kr1 := cell_of_row w6 _ 1 _ _ _ hbx
          have kr2 := cell_of_row w6 _ 2 _ _ _ hbx
          clear hB6 hbx ho6
          go_wp2_with ((at_builtin; go_loud (refine wpList_app _ rfl _ _ 37 rfl (w1.heap.size) 48 i3 _ 3 40 Tryz.underlying37 hi3 hz3 hs3 hb3 rfl (by decide) _ _ _ (L.flatMap rtCells) rfl (L6.out.alloc _).row _ 1 _ (rtCells ((r, (A5, c5)) : RtZ)) rfl (Rd.new (by simp) rfl) ?h1 ?h63 ?hby ?hB ?_); go_loud (case h1 => intro u hu; simp [rtCells] at hu; rcases hu with rfl | rfl | rfl <;> rfl); go_loud (case h63 => unfold maxLen; omega); go_loud (case hby => omega); go_loud (case hB => have := L6.out.below.size; simp; omega); intro A2 c2 w5 hown2 hgrow2 hblk2 _; go_loud (have L7 := Lib.hid (LW.app (z := ((r, (A5, c5)) : RtZ)) (L6.out.alloc _) (show w1.heap.size ≤ wr.heap.size + 1 by omega) (OwnOr.alloc HO6.out _) (by rfl) hgrow2 hown2))); clear hown2 hgrow2 hblk2)
          go_roundw
          case rel => exact ⟨k + 1, _, A2, c2, by omega, by have := HLk.out; simp; omega, by go_num, by simp, HM.out _, L7.out⟩
          case measure => simp [intOf]; omega
      · have HS : Hid (heldS p R k = rtNone) := Lib.hid (by unfold heldS; rw [List.getElem?_eq_none (by omega)])
        have HM := Lib.hid (show (L ++ [((rtNone, (none, 0)) : RtZ)]).map (·.1) = (List.range (k + 1)).map (heldS p R) from by rw [List.map_append, MX.out, range_snoc, HS.out]; rfl)
        have hk1 : ¬ (k : Int) < (R.length : Int) := by omega
        go_wp2_with ((at_builtin; go_loud (refine wpList_app _ rfl _ _ 37 rfl (w1.heap.size) 48 i3 _ 3 40 Tryz.underlying37 hi3 hz3 hs3 hb3 rfl (by decide) _ _ _ (L.flatMap rtCells) rfl (LB.out.alloc _).row _ 1 _ (rtCells ((rtNone, (none, 0)) : RtZ)) rfl (Rd.new (by simp) rfl) ?h1 ?h63 ?hby ?hB ?_); go_loud (case h1 => intro u hu; simp [rtCells] at hu; rcases hu with rfl | rfl | rfl <;> rfl); go_loud (case h63 => unfold maxLen; omega); go_loud (case hby => omega); go_loud (case hB => have := LB.out.below.size; simp; omega); intro A2 c2 w5 hown2 hgrow2 hblk2 _; go_loud (have L5 := Lib.hid (LW.app (z := ((rtNone, (none, 0)) : RtZ)) (LB.out.alloc _) (show w1.heap.size ≤ wr.heap.size from hLs) (OwnOr.alloc (B := wr.heap.size) (.inr ⟨rfl, Nat.zero_le _⟩) _) (by rfl) hgrow2 hown2))); clear hown2 hgrow2 hblk2)
        go_roundw
        case rel => exact ⟨k + 1, _, A2, c2, by omega, by have := HLk.out; simp; omega, by go_num, by simp, HM.out, L5.out⟩
        case measure => simp [intOf]; omega
    · have hkN : k = p.nodes.length := by omega
      have HF : Hid (StsPost w (stL p (heldS p R)) (.returned (.slice A0 L.length c0')) wr) := Lib.hid ⟨L, A0, c0', rfl, by rw [MX.out, hkN]; rfl, LX.out.since P1.out.below⟩
      clear hkN
      go_wp2
      go_ret
      exact HF.out
end Go.Proofs.YtakolnmoieiicaaGreat

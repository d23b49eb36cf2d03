/- The walk of backstaylaw07.Held: of raw numbers, a route that a node may hold. -/
import Derived.Test.YtakolnmoieiicaaGreatRoundP
import Derived.Test.YtakolnmoieiicaaGreatBase
import Derived.Test.YtakolnmoieiicaaGreatNetD
import Derived.Test.YtakolnmoieiicaaGreatRegs
import Derived.Handy
namespace Go.Proofs.YtakolnmoieiicaaGreat
set_option linter.unusedSimpArgs false
set_option linter.unusedVariables false
open Go.RowKit

theorem pick7_any (c n : Int) (w : World) (hc : In64 c) (hn : 0 < n) (hn2 : n < 10000000000) : Calls Tryz.prog 55 #[.int .i64 c, .int .i64 n] w fun e w' => e = .returned (.int .i64 (pickV c n)) ∧ w = w' := by
  obtain ⟨h1, h2⟩ := hc
  have hn0 : n ≠ 0 := by omega
  by_cases h : c < 0
  · have HN := Lib.hid (show pickV c n = Int.tmod (-(c + 1)) n from by unfold pickV; rw [if_pos h, Int.tmod_eq_emod_of_nonneg (by omega)])
    go_enter Tryz.func55, Tryz.ntmps55
    go_wp2
    go_ret
    exact ⟨ret_int (by rw [HN.out, Int.neg_tmod]), rfl⟩
  · have HN := Lib.hid (show pickV c n = c % n from by unfold pickV; rw [if_neg h])
    go_enter Tryz.func55, Tryz.ntmps55
    go_wp2
    go_ret
    exact ⟨ret_int (by rw [HN.out]), rfl⟩

structure HeldW (w wr : World) (p : Net) (h : Hd) (l : List Int) (A : Option Addr) (c : Nat) : Prop where
  bl : Bl w wr [.cells (netCells p h) 30, .cells #[.int .i64 0, .int .i64 0, .slice none 0 0] 48, .cells #[.int .i64 2, .int .i64 0, .slice A l.length c] 48]
  own : Own wr (w.heap.size + 3) 3 1 A l.length c (ints l)
section
variable {w wr w' w2 : World} {p : Net} {h : Hd} {l : List Int} {A : Option Addr} {c : Nat}
theorem HeldW.begin (w : World) (p : Net) (h : Hd) : HeldW w (((w.alloc (.cells (netCells p h) 30)).alloc (.cells #[.int .i64 0, .int .i64 0, .slice none 0 0] 48)).alloc (.cells #[.int .i64 2, .int .i64 0, .slice none 0 0] 48)) p h [] none 0 :=
  ⟨(((Bl.begin w).push (by simp) _).push (by simp) _).push (by simp) _, Own.nil _ _ _ _⟩
theorem HeldW.alloc (a : HeldW w wr p h l A c) (o : Obj) : HeldW w (wr.alloc o) p h l A c := ⟨a.bl.alloc o, a.own.alloc o⟩
theorem HeldW.at2 (a : HeldW w wr p h l A c) : wr.cell? ⟨w.heap.size + 1 + 1, 2, none⟩ = some (.slice A l.length c) := a.bl.cell (i := 2) rfl
theorem HeldW.size (a : HeldW w wr p h l A c) : w.heap.size + 3 ≤ wr.heap.size := by have := a.bl.lt (i := 2) (by simp); omega
theorem HeldW.plan (a : HeldW w wr p h l A c) : wr.cell? ⟨w.heap.size, 0, none⟩ = some (.int .i64 p.proto) ∧ wr.cell? ⟨w.heap.size, 1, none⟩ = some (.int .i64 p.cap) ∧ wr.cell? ⟨w.heap.size, 3, none⟩ = some (.slice h.an p.nodes.length h.cn) :=
  ⟨a.bl.cell (i := 0) (k := 0) rfl, a.bl.cell (i := 0) (k := 1) rfl, a.bl.cell (i := 0) (k := 3) rfl⟩
theorem HeldW.grow (a : HeldW w wr p h l A c) (hg : wr.grownBy w2 (blk A)) : Bl w w2 [.cells (netCells p h) 30, .cells #[.int .i64 0, .int .i64 0, .slice none 0 0] 48, .cells #[.int .i64 2, .int .i64 0, .slice A l.length c] 48] :=
  a.bl.grown hg (fun g e => a.own.from_ g e)
theorem HeldW.cell2 (a : HeldW w wr p h l A c) (hg : wr.grownBy w2 (blk A)) : w2.cell? ⟨w.heap.size + 1 + 1, 2, none⟩ = some (.slice A l.length c) := (a.grow hg).cell (i := 2) rfl
theorem HeldW.free2 (a : HeldW w wr p h l A c) (hg : wr.grownBy w2 (blk A)) (k : Nat) : w2.frozen? ⟨w.heap.size + 1 + 1, k, none⟩ = false := (a.grow hg).free (i := 2) rfl
theorem HeldW.app (a : HeldW w wr p h l A c) {x : Int} {A2 : Option Addr} {c2 n : Nat} (hn : n = l.length + 1) (hg : wr.grownBy w2 (blk A)) (hown : Own w2 (w.heap.size + 3) 3 1 A2 n c2 (ints l ++ [.int .i64 x])) :
    HeldW w (w2.setCell ⟨w.heap.size + 1 + 1, 2, none⟩ (.slice A2 n c2)) p h (l ++ [x]) A2 c2 := by
  subst hn
  refine ⟨?_, ?_⟩
  · have := (a.grow hg).put (i := 2) (k := 2) rfl (.slice A2 (l.length + 1) c2)
    simpa using this
  · have := hown.setCell_far (p := ⟨w.heap.size + 1 + 1, 2, none⟩) (fun g hg => by have := hown.from_ g hg; simp; omega) (.slice A2 (l.length + 1) c2)
    simpa [ints] using this
theorem HeldW.resAt (a : HeldW w wr p h l A c) : wr.cell? ⟨w.heap.size + 1, 0, none⟩ = some (.int .i64 0) ∧ wr.cell? ⟨w.heap.size + 1, 1, none⟩ = some (.int .i64 0) ∧ wr.cell? ⟨w.heap.size + 1, 2, none⟩ = some (.slice none 0 0) :=
  ⟨a.bl.cell (i := 1) (k := 0) rfl, a.bl.cell (i := 1) (k := 1) rfl, a.bl.cell (i := 1) (k := 2) rfl⟩
theorem HeldW.resFree (a : HeldW w wr p h l A c) (k : Nat) : wr.frozen? ⟨w.heap.size + 1, k, none⟩ = false := a.bl.free (i := 1) rfl
theorem HeldW.rAt (a : HeldW w wr p h l A c) : wr.cell? ⟨w.heap.size + 1 + 1, 0, none⟩ = some (.int .i64 2) ∧ wr.cell? ⟨w.heap.size + 1 + 1, 1, none⟩ = some (.int .i64 0) ∧ wr.cell? ⟨w.heap.size + 1 + 1, 2, none⟩ = some (.slice A l.length c) :=
  ⟨a.bl.cell (i := 2) (k := 0) rfl, a.bl.cell (i := 2) (k := 1) rfl, a.bl.cell (i := 2) (k := 2) rfl⟩
end
/-- The route is handed back, its list in memory of the call's own. -/
def HeldPost (r : Rt) (w : World) (e : Ending) (w' : World) : Prop :=
  ∃ A c, e = .returned (rtV r A c) ∧ Own w' w.heap.size 3 1 A r.path.length c (ints r.path) ∧ Below w.heap.size w w'
theorem HeldW.answer {w wr : World} {p : Net} {h : Hd} {l : List Int} {A : Option Addr} {c : Nat} (a : HeldW w wr p h l A c) {r : Rt} (e : r = ⟨2, 0, l⟩) :
    HeldPost r w (.returned (rtV ⟨2, 0, l⟩ A c)) (((wr.setCell ⟨w.heap.size + 1, 0, none⟩ (.int .i64 2)).setCell ⟨w.heap.size + 1, 1, none⟩ (.int .i64 0)).setCell ⟨w.heap.size + 1, 2, none⟩ (.slice A l.length c)) := by
  have hf : ∀ {wx : World} (i : Nat) (v : Value), Own wx (w.heap.size + 3) 3 1 A l.length c (ints l) → Own (wx.setCell ⟨w.heap.size + 1, i, none⟩ v) (w.heap.size + 3) 3 1 A l.length c (ints l) :=
    fun i v h => h.setCell_far (fun g hg => by have := h.from_ g hg; simp; omega) v
  subst e
  exact ⟨A, c, rfl, (hf _ _ (hf _ _ (hf _ _ a.own))).more (by omega), ((a.bl.below.setCell (by simp) _).setCell (by simp) _).setCell (by simp) _⟩
set_option maxRecDepth 100000 in
set_option maxHeartbeats 2000000 in
theorem held_any (p : Net) (h : Hd) (i : Nat) (raw : List Int) (A0 : Option Addr) (c0 : Nat) (w : World) (hp : NetR w w.heap.size p h) (hg : NetG p) (hin : i < p.nodes.length) (hr : Rd w w.heap.size 1 A0 raw.length (ints raw)) (hI : ∀ x ∈ raw, In64 x) (hl : raw.length ≤ maxLen) :
    Calls Tryz.prog 26 #[netV p h, .int .i64 (i : Int), .slice A0 raw.length c0] w (HeldPost (heldR p i raw) w) := by
  unfold maxLen at hl
  have HI := Lib.hid hI
  have HH := Lib.hid hr
  obtain ⟨x, hx⟩ : ∃ x, p.nodes[i]? = some x := ⟨_, List.getElem?_eq_getElem hin⟩
  have hax : asOf p i = x.as_ := by simp [asOf, hx]
  obtain ⟨bn, on, en, -, x0, x1⟩ := hp.nodes.node hx
  have hbn : bn < w.heap.size := cell_lt x0
  have HG := hg.proto
  unfold netV netVal
  by_cases h1 : p.proto = 1
  · have hb1 : (p.proto == 1) = true := by simp [h1]
    clear HG hI hr x0 x1 hax hx hp en
    rcases raw with _ | ⟨y, raw⟩
    · have HF : Hid (∀ w', Below w.heap.size w w' → HeldPost (heldR p i []) w (.returned (rtV ⟨1, 0, []⟩ none 0)) w') := Lib.hid (fun w' hb => by unfold heldR; rw [if_pos h1]; exact ⟨none, 0, rfl, Own.nil _ _ _ _, hb⟩)
      clear h1
      go_enter Tryz.func26, Tryz.ntmps26
      go_wp2
      exact bodyPost_ret (v := rtV ⟨1, 0, []⟩ none 0) (by simp [results, Tryz.results26, go_sem, rtV]) rfl (HF.out _ (by go_grown))
    · obtain ⟨b0, o0, rfl, -, hc0⟩ := HH.out.one (i := 0) (x := .int .i64 y) (by simp [ints])
      have HF : Hid (∀ w', Below w.heap.size w w' → HeldPost (heldR p i (y :: raw)) w (.returned (rtV ⟨1, pickV y 16, []⟩ none 0)) w') := Lib.hid (fun w' hb => by unfold heldR; rw [if_pos h1]; exact ⟨none, 0, rfl, Own.nil _ _ _ _, hb⟩)
      have hyI := Lib.hid (HI.out y (by simp))
      have hl0 : (0 : Int) < (((y :: raw).length : Nat) : Int) := by simp
      simp only [Nat.add_zero] at hc0
      have hb0 : b0 < w.heap.size := cell_lt hc0
      have hcW : (((w.alloc (.cells #[.int .i64 p.proto, .int .i64 p.cap, .int .i64 p.k, .slice h.an p.nodes.length h.cn, .slice h.al p.links.length h.cl, .slice h.ad p.dests.length h.cd, .slice h.ac p.checks.length h.cc] 30)).alloc (.cells #[.int .i64 0, .int .i64 0, .slice none 0 0] 48)).alloc (.cells #[.int .i64 1, .int .i64 0, .slice none 0 0] 48)).cell? ⟨b0, o0, none⟩ = some (.int .i64 y) :=
        ((show Below w.heap.size w _ by go_grown).cell (p := ⟨b0, o0, none⟩) hb0).trans hc0
      clear hc0
      generalize (y :: raw).length = n at *
      clear h1
      go_enter Tryz.func26, Tryz.ntmps26
      go_wp2_with (go_at_call 55; refine (pick7_any _ 16 _ hyI.out (by omega) (by omega)).mono ?_; rintro e w' ⟨rfl, rfl⟩)
      exact bodyPost_ret (v := rtV ⟨1, pickV y 16, []⟩ none 0) (by simp [results, Tryz.results26, go_sem, rtV]) rfl (HF.out _ (by go_grown))
  · have hb1 : (p.proto == 1) = false := by simp [h1]
    have hcap : 1 ≤ p.cap ∧ p.cap ≤ 12 := by omega
    have HR := Lib.hid (show heldR p i raw = ⟨2, 0, raw.foldl (stepH p.cap x.as_) []⟩ from by unfold heldR; rw [if_neg h1, hax])
    have HX : Hid (∀ wy, Below w.heap.size w wy → wy.cell? ⟨bn, on + i * 2 + 1, none⟩ = some (.int .i64 x.as_)) := Lib.hid (fun wy hb => (hb.cell (p := ⟨bn, on + i * 2 + 1, none⟩) hbn).trans x1)
    have HE := Lib.hid en
    have hi0 : (0 : Int) ≤ (i : Int) := by omega
    have hi1 : (i : Int) < (p.nodes.length : Int) := by omega
    obtain ⟨ii0, hii0, hzz0, hzs0, hzb0⟩ := info_parts Tryz.info_int
    clear h1 hax hI hr x0 x1 HG hx hp hg en
    go_enter Tryz.func26, Tryz.ntmps26
    go_wp2_with fail
    go_loopw [8] (fun si wr => ∃ (k : Nat) (l : List Int) (A : Option Addr) (c : Nat), k ≤ raw.length ∧ si = .int .i64 (k : Int) ∧ l = (raw.take k).foldl (stepH p.cap x.as_) [] ∧ HeldW w wr p h l A c) (fun si _ => raw.length - (intOf si).toNat)
    case atStart => exact ⟨0, [], none, 0, Nat.zero_le _, rfl, rfl, HeldW.begin w p h⟩
    case round =>
      obtain ⟨k, l, A, c, hk, rfl, hlf, hW⟩ := hrel
      have HLF := Lib.hid hlf
      have hok : HeldOk p.cap x.as_ l := by rw [hlf]; exact HeldOk.fold _ _ ⟨by simp; omega, by simp, by simp, by simp⟩
      have h12 : l.length ≤ 12 := by have := hok.len; omega
      have HW := Lib.hid hW
      have hsz := hW.size
      have ha2 := hW.at2
      obtain ⟨p0, p1, p3⟩ := hW.plan
      rw [HE.out] at p3
      have hxx := HX.out _ hW.bl.below
      clear hlf hok
      by_cases hlt : k < raw.length
      · have hltz : (k : Int) < (raw.length : Int) := by omega
        by_cases hlc : (l.length : Int) < p.cap
        · obtain ⟨y, hy⟩ : ∃ y, raw[k]? = some y := ⟨_, List.getElem?_eq_getElem hlt⟩
          obtain ⟨b', o', rfl, _, hcy⟩ := (HH.out.below hW.bl.below (Nat.le_refl _)).one (i := k) (x := .int .i64 y) (by simp [ints, hy])
          have hyI := Lib.hid (HI.out y (List.mem_of_getElem? hy))
          have HS := Lib.hid (show (raw.take (k + 1)).foldl (stepH p.cap x.as_) [] = stepH p.cap x.as_ l y from by rw [List.take_add_one, hy]; simp [← HLF.out])
          have hk0 : (0 : Int) ≤ (k : Int) := by omega
          have hp20 := pickV_in (c := y) (n := 20) (by omega)
          obtain ⟨hp0, hp1⟩ := hp20
          clear hy hW
          go_upto_region 12 with (go_at_call 55; refine (pick7_any _ 20 _ hyI.out (by omega) (by omega)).mono ?_; rintro e w' ⟨rfl, rfl⟩)
          generalize hnn : 1 + pickV y 20 = nn at *
          have HNN := Lib.hid hnn
          clear hnn hp0 hp1
          go_wp2_with fail
          go_loop [10, 11] (fun here q => ∃ (n : Nat) (hb : Bool), n ≤ l.length ∧ q = .int .i64 n ∧ here = .bool hb ∧ hb = (decide (nn = x.as_) || decide (nn ∈ l.take n))) (fun _ q => l.length - (intOf q).toNat)
          case atStart => exact ⟨0, decide (nn = x.as_), Nat.zero_le _, rfl, by congr 1; try (rw [Bool.eq_iff_iff]; simp), by simp⟩
          case round =>
            obtain ⟨n, hb, hn, rfl, rfl, hbe⟩ := hrel
            have HEE := Lib.hid hbe
            clear hbe
            by_cases hnl : n < l.length
            · obtain ⟨z, hz⟩ : ∃ z, l[n]? = some z := ⟨_, List.getElem?_eq_getElem hnl⟩
              obtain ⟨b3, o3, e3, _, hcz⟩ := HW.out.own.rd.one (i := n) (x := .int .i64 z) (by simp [ints, hz])
              have HA := Lib.hid e3
              rw [e3] at ha2
              have HT := Lib.hid (show (decide (nn = x.as_) || decide (nn ∈ l.take (n + 1))) = (hb || decide (z = nn)) from by
                rw [List.take_add_one, hz, HEE.out, Bool.or_assoc]
                congr 1
                rw [Bool.eq_iff_iff]
                simp
                constructor
                · rintro (h | h)
                  · exact .inl h
                  · exact .inr h.symm
                · rintro (h | h)
                  · exact .inl h
                  · exact .inr h.symm)
              clear hz e3
              cases hb with
              | true =>
                go_wp2_with fail
                go_round
                case rel => exact ⟨n + 1, true, by omega, by go_num, rfl, by rw [HT.out]; rfl⟩
                case measure => simp [intOf]; omega
              | false =>
                go_wp2_with fail
                go_round
                case rel => exact ⟨n + 1, _, by omega, by go_num, rfl, by rw [HT.out]; rw [Bool.eq_iff_iff]; simp⟩
                case measure => simp [intOf]; omega
            · have hbl : hb = (decide (nn = x.as_) || decide (nn ∈ l)) := by
                have := HEE.out
                rwa [List.take_of_length_le (by omega)] at this
              cases hb with
              | true =>
                have HF := Lib.hid (show stepH p.cap x.as_ l y = l from by unfold stepH; rw [if_pos hlc, HNN.out, if_pos (by simpa using hbl.symm)])
                clear hbl
                go_wp2_with fail
                go_roundw
                case rel => exact ⟨k + 1, l, A, c, by omega, by go_num, by rw [HS.out, HF.out], HW.out⟩
                case measure => simp [intOf]; omega
              | false =>
                have HF := Lib.hid (show stepH p.cap x.as_ l y = l ++ [nn] from by unfold stepH; rw [if_pos hlc, HNN.out, if_neg (by simpa using hbl.symm)])
                clear hbl
                go_wp2_with (at_builtin; refine wpList_app _ rfl _ _ 22 rfl (w.heap.size + 3) 3 ii0 (.int .i64 0) 1 8 Tryz.underlying22 hii0 hzz0 hzs0 hzb0 rfl (by decide) _ _ _ (ints l) rfl (by exact (HW.out.alloc _).own) _ 1 _ [.int .i64 nn] rfl (Rd.new (by simp) rfl) (by intro u hu; simp at hu; subst hu; rfl) (by unfold maxLen; omega) (by omega) (by simp; omega) ?_; intro A2 c2 w2 hown2 hgrow2 hblk2 _; (have d2 := (HW.out.alloc _).cell2 hgrow2); (have e2 := (HW.out.alloc _).free2 hgrow2 2); (have W2 := (HW.out.alloc _).app (by rfl) hgrow2 hown2))
                clear hgrow2 hown2 hblk2 d2 e2
                go_roundw
                case rel => exact ⟨k + 1, _, A2, c2, by omega, by go_num, by rw [HS.out, HF.out], W2⟩
                case measure => simp [intOf]; omega
        · have HP := Lib.hid (HW.out.answer (r := heldR p i raw) (by rw [HR.out]; congr 1; rw [← List.take_append_drop k raw, List.foldl_append, ← HLF.out, stopH_fold _ _ hlc]))
          obtain ⟨m0, m1, m2⟩ := HW.out.rAt
          obtain ⟨r0, r1, r2⟩ := HW.out.resAt
          have rf0 := HW.out.resFree 0
          have rf1 := HW.out.resFree 1
          have rf2 := HW.out.resFree 2
          clear hW
          go_wp2
          exact bodyPost_ret (v := rtV ⟨2, 0, l⟩ A c) (by simp [results, Tryz.results26, go_sem, rtV, m0, m1, m2, r0, r1, r2]) rfl HP.out
      · have hge : ¬ (k : Int) < (raw.length : Int) := by omega
        have hkl : k = raw.length := by omega
        have HP := Lib.hid (HW.out.answer (r := heldR p i raw) (by rw [HR.out]; congr 1; rw [HLF.out, hkl, List.take_length]))
        obtain ⟨m0, m1, m2⟩ := HW.out.rAt
        obtain ⟨r0, r1, r2⟩ := HW.out.resAt
        have rf0 := HW.out.resFree 0
        have rf1 := HW.out.resFree 1
        have rf2 := HW.out.resFree 2
        clear hW hkl
        go_wp2
        exact bodyPost_ret (v := rtV ⟨2, 0, l⟩ A c) (by simp [results, Tryz.results26, go_sem, rtV, m0, m1, m2, r0, r1, r2]) rfl HP.out
end Go.Proofs.YtakolnmoieiicaaGreat

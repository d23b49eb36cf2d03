/- The walk of Net. -/
import Derived.Test.YtakolnmoieiicaaGreatNetD
import Derived.Deep.Light
namespace Go.Proofs.YtakolnmoieiicaaGreat
set_option linter.unusedSimpArgs false
set_option linter.unusedVariables false
open Go.RowKit

set_option maxRecDepth 100000 in
set_option maxHeartbeats 40000000 in
theorem net_any (w : World) (A : Option Addr) (l : List Int) (c : Nat) (hl : l.length ≤ maxLen) (hlc : l.length ≤ c) (hr : Rd w w.heap.size 1 A l.length (ints l)) (hi : ∀ x ∈ l, In64 x) : Calls Tryz.prog 5 #[.slice A l.length c] w (NetPost w) := by
  unfold maxLen at hl
  obtain ⟨i0, hi0, hz0, hs0, hb0⟩ := info_parts Tryz.info_int
  obtain ⟨i3, hi3, hz3, hs3, hb3⟩ := info_parts Tryz.info_ds
  obtain ⟨i4, hi4, hz4, hs4, hb4⟩ := info_parts Tryz.info_ck
  obtain ⟨i1, hi1, hz1, hs1, hb1⟩ := info_parts Tryz.info_nd
  obtain ⟨i2, hi2, hz2, hs2, hb2⟩ := info_parts Tryz.info_lk
  have HX := Lib.hid (And.intro hr hi)
  clear hr hi
  go_enter Tryz.func5, Tryz.ntmps5
  go_upto_if 21 with fail
  go_cut [0] from 19 to 21 (fun v wx => ∃ (l : List Int) (c : Nat), v = .slice A l.length c ∧ l.length ≤ c ∧ Rd w w.heap.size 1 A l.length (ints l) ∧ (∀ x ∈ l, In64 x) ∧ wx = w.alloc (.cells zeroCells 30))
  case first =>
    by_cases h200 : 200 < l.length
    · have h200' : (200 : Int) < (l.length : Int) := by omega
      obtain ⟨b, o, rfl, hb, hx⟩ := HX.out.1.2 (by omega)
      have h200c : 200 ≤ c := by omega
      clear hx
      go_wp2_with fail
      go_meet
      case rel =>
        refine ⟨l.take 200, c, by rw [List.length_take, Nat.min_eq_left (by omega)], by rw [List.length_take]; omega, ?_, fun x hx => HX.out.2 x (List.mem_of_mem_take hx), rfl⟩
        have := HX.out.1.take (k := 200) (by omega)
        rw [List.length_take, Nat.min_eq_left (by omega)]
        exact this
    · have h200' : (l.length : Int) ≤ 200 := by omega
      go_wp2_with fail
      go_meet
      case rel => exact ⟨l, c, rfl, hlc, HX.out.1, HX.out.2, rfl⟩
  case rest =>
  clear HX hlc hl
  obtain ⟨l, c, rfl, hlc, hr, hi, rfl⟩ := hcut
  have HS := Lib.hid (NS.begin hlc hr hi)
  clear hr hi
  go_wp2_with fail
  refine (nnext HS.out 2 (by omega) (by omega)).mono ?_
  rintro e w1 ⟨k1, rfl, hk10, hk11, H1, -⟩
  go_upto_if 30 with fail
  go_cut [] from 28 to 30 (fun wx => ∃ p h, NS w wx p h ∧ p.nodes = [] ∧ p.links = [] ∧ p.dests = [] ∧ p.checks = [] ∧ head0 p)
  case first =>
    by_cases hk : k1 = 1
    · obtain ⟨c0, c1, -⟩ := H1.all
      have f0 := H1.free 0
      have H2 := Lib.hid (H1.set (p' := ⟨2, 0, 0, [], [], [], []⟩) 0 (.int .i64 2) rfl rfl rfl rfl rfl)
      clear H1
      go_wp2_with fail
      refine (nnext H2.out 6 (by omega) (by omega)).mono ?_
      rintro e w2 ⟨k2, rfl, hk20, hk21, H3, -⟩
      obtain ⟨c0, c1, -⟩ := H3.all
      have f1 := H3.free 1
      have H4 := Lib.hid (H3.set (p' := ⟨2, 1 + k2, 0, [], [], [], []⟩) 1 (.int .i64 (1 + k2)) rfl rfl rfl rfl rfl)
      clear H3
      go_wp2_with fail
      go_meet
      case rel => exact ⟨_, _, H4.out, rfl, rfl, rfl, rfl, rfl, .inr ⟨rfl, show 1 ≤ 1 + k2 from by omega, show 1 + k2 ≤ 6 from by omega⟩⟩
    · go_wp2_with fail
      go_meet
      case rel => exact ⟨_, _, H1, rfl, rfl, rfl, rfl, rfl, .inl ⟨rfl, rfl⟩⟩
  case rest =>
  obtain ⟨p, h, H0, hn0, hl0, hd0, hc0, hh0⟩ := hcut
  clear HS
  go_wp2_with fail
  refine (nnext H0 4 (by omega) (by omega)).mono ?_
  rintro e w2 ⟨kf, rfl, hkf0, hkf1, H1, -⟩
  clear H0
  go_wp2_with fail
  refine (nnext H1 6 (by omega) (by omega)).mono ?_
  rintro e w3 ⟨kn, rfl, hkn0, hkn1, H2, -⟩
  clear H1
  obtain ⟨m, rfl⟩ : ∃ m : Nat, kn = m := ⟨kn.toNat, by omega⟩
  have HP := Lib.hid (show ∃ (p : Net) (h : Hd), NS w w3 p h ∧ NodesOk p 0 ∧ p.links = [] ∧ p.dests = [] ∧ p.checks = [] ∧ head0 p from ⟨p, h, H2, ⟨by rw [hn0]; rfl, by rw [hn0]; rfl, by rw [hn0]; simp⟩, hl0, hd0, hc0, hh0⟩)
  clear H2 hn0 hl0 hd0 hc0 hh0
  go_upto_region 10 with fail
  go_cut [7] from 7 to 7 (fun s wx => s = .int .i64 0 ∧ ∃ (p : Net) (h : Hd), NS w wx p h ∧ NodesOk p 0 ∧ p.links = [] ∧ p.dests = [] ∧ p.checks = [] ∧ head0 p)
  case first =>
    go_wp2_with fail
    go_meet
    case rel => exact ⟨rfl, HP.out⟩
  case rest =>
  clear HP
  obtain ⟨rfl, hI⟩ := hcut
  have HP := Lib.hid hI
  clear hI
  rename_i hKl
  refine hKl _ _ ?_
  clear hKl
  go_cut [] from 41 to 64 (fun wx => ∃ (p : Net) (h : Hd), NS w wx p h ∧ NodesOk p (2 + m) ∧ p.links = [] ∧ p.dests = [] ∧ p.checks = [] ∧ head0 p)
  case first =>
    go_wp2_with fail
    go_loopw [7] (fun i wx => ∃ (k : Nat) (p : Net) (h : Hd), k ≤ 2 + m ∧ i = .int .i64 k ∧ NS w wx p h ∧ NodesOk p k ∧ p.links = [] ∧ p.dests = [] ∧ p.checks = [] ∧ head0 p) (fun i _ => 2 + m - (intOf i).toNat)
    case atStart =>
      obtain ⟨p, h, a1, a2, a3, a4, a5, a6⟩ := HP.out
      exact ⟨0, p, h, by omega, rfl, a1, a2, a3, a4, a5, a6⟩
    case round =>
      clear HP
      obtain ⟨k, p, h, hk, rfl, H0, hN, hl0, hd0, hc0, hh0⟩ := hrel
      have HR := Lib.hid (And.intro hN (And.intro hl0 (And.intro hd0 (And.intro hc0 hh0))))
      clear hN hl0 hd0 hc0 hh0
      by_cases hlt : k < 2 + m
      · have hltz : (k : Int) < 2 + (m : Int) := by omega
        go_wp2_with fail
        refine (nnext H0 9 (by omega) (by omega)).mono ?_
        rintro e w4 ⟨k4, rfl, hk40, hk41, H1, -⟩
        clear H0
        go_wp2_with fail
        refine (nnext H1 3 (by omega) (by omega)).mono ?_
        rintro e w5 ⟨k5, rfl, hk50, hk51, H2, -⟩
        clear H1
        go_upto_if 51 with fail
        go_cut [8] (fun s wx => ∃ x : Int, s = .int .i64 x ∧ 1 ≤ x ∧ x ≤ 16 ∧ NS w wx p h)
        case first =>
          by_cases h5 : 0 < k5
          · go_wp2_with fail
            go_meet
            case rel => exact ⟨_, rfl, by omega, by omega, H2⟩
          · go_wp2_with fail
            go_meet
            case rel => exact ⟨_, rfl, by omega, by omega, H2⟩
        case rest =>
        obtain ⟨x, rfl, hx1, hx2, H3⟩ := hcut
        clear H2
        obtain ⟨nm, hnm⟩ : ∃ s, letters[k]? = some s := ⟨_, List.getElem?_eq_getElem (show k < letters.length by simp [letters]; omega)⟩
        have hcell : (#[.string ⟨#[97]⟩, .string ⟨#[98]⟩, .string ⟨#[99]⟩, .string ⟨#[100]⟩, .string ⟨#[101]⟩, .string ⟨#[102]⟩, .string ⟨#[103]⟩] : Array Value)[k]? = some (.string nm) := by
          have : (#[.string ⟨#[97]⟩, .string ⟨#[98]⟩, .string ⟨#[99]⟩, .string ⟨#[100]⟩, .string ⟨#[101]⟩, .string ⟨#[102]⟩, .string ⟨#[103]⟩] : Array Value) = (letters.map Value.string).toArray := rfl
          rw [this]; simp [hnm]
        have hk7 : (k : Int) < 7 := by omega
        have hsz := H3.b.size
        have HKL := Lib.hid (HR.out.1.1)
        have hkb : p.nodes.length ≤ 7 := by rw [HKL.out]; omega
        obtain ⟨-, -, -, c3, -⟩ := H3.all
        have f3 := H3.free 3
        have n3 := World.new_ne wc _ c3
        have n31 : w.heap.size + 1 + 1 < wc.heap.size := by omega
        have n32 : w.heap.size + 1 + 1 < wc.heap.size + 1 := by omega
        have n33 : w.heap.size + 1 + 1 ≠ wc.heap.size + 1 := by omega
        go_wp2_with fail
        go_region_law (first
          | ((refine step_app _ (by rfl) _ _ 25 (by rfl) (w.heap.size + 3) 55 i1 _ 2 24 Tryz.underlying25 hi1 hz1 hs1 hb1 rfl (by decide) _ _ _ (p.nodes.flatMap ndCells) (by rfl) (by exact Own.alloc (Own.alloc H3.b.nodes _) _) _ 1 _ (ndCells ⟨nm, x⟩) (by rfl) (Rd.new (by simp) rfl) (by intro u hu; simp [ndCells, lkCells, ckCells, dsCells] at hu; rcases hu with rfl | rfl | rfl | rfl | rfl <;> rfl) (by unfold maxLen; omega) (by omega) (by simp; omega) ?_; intro A2 c2 w2 hown2 hgrow2 hblk2 _; ((have c33 : w2.cell? ⟨w.heap.size + 1 + 1, 3, none⟩ = some (.slice h.an p.nodes.length h.cn) := (((H3.alloc _).alloc _).drew).cell2 hgrow2 H3.b.nodes.from_ 3); (have f33 := (((H3.alloc _).alloc _).drew).free2 hgrow2 H3.b.nodes.from_ 3); (have H4 := NS.addNode (((H3.alloc _).alloc _).drew) hgrow2 hown2)))))
        all_goals
          have HZ := Lib.hid (NodesOk.add (p := p) HR.out.1 hnm hx1 hx2)
          clear hgrow2 hown2 hblk2 c33 f33
          go_wp2_with fail
          go_roundw
          case rel => exact ⟨k + 1, _, _, by omega, by go_num, H4, HZ.out, HR.out.2.1, HR.out.2.2.1, HR.out.2.2.2.1, HR.out.2.2.2.2⟩
          case measure => simp [intOf]; omega
      · have hge : 2 + (m : Int) ≤ (k : Int) := by omega
        have hkm : k = 2 + m := by omega
        go_wp2_with fail
        go_meet
        case rel => exact ⟨p, h, H0, hkm ▸ HR.out.1, HR.out.2.1, HR.out.2.2.1, HR.out.2.2.2.1, HR.out.2.2.2.2⟩
  case rest =>
  clear HP
  obtain ⟨p, h, H0, hN, hl0, hd0, hc0, hh0⟩ := hcut
  have HR := Lib.hid (And.intro hN (And.intro hl0 (And.intro hd0 (And.intro hc0 hh0))))
  clear hN hl0 hd0 hc0 hh0
  go_wp2_with fail
  refine (nnext H0 10 (by omega) (by omega)).mono ?_
  rintro e w4 ⟨k4, rfl, hk40, hk41, H1, -⟩
  clear H0
  go_upto_region 18 with fail
  go_cut [10] from 65 to 67 (fun s wx => ∃ U : Nat, s = .pointer (some ⟨U, 0, none⟩) ∧ UsedW w wx p h U (fun _ => false))
  case first =>
    have hU := UsedW.begin H1
    have hh := hU.used
    go_wp2_with (with_reducible refine wpList_store_row rfl 56 _ _ rfl w4.heap.size (boolArr fun _ => false) rfl rfl 56 _ (heap_alloc_new _ _) ?hsize2 ?hs3 ?hs4 ?_)
    case hsize2 => have := Tryz.size_used; simpa [boolArr_size] using this
    case hs3 => rw [boolArr_size]
    case hs4 => intro i hi; simp [boolArr, Value.oneCell']
    go_meet
    case rel => exact ⟨_, rfl, hU⟩
  case rest =>
  obtain ⟨U, rfl, hU⟩ := hcut
  have HI := Lib.hid (show ∃ (p : Net) (h : Hd) (f : Nat → Bool), UsedW w wc p h U f ∧ NodesOk p (2 + m) ∧ LinksOk p (2 + m) 0 f ∧ p.dests = [] ∧ p.checks = [] ∧ head0 p from ⟨p, h, _, hU, HR.out.1, LinksOk.begin HR.out.2.1, HR.out.2.2.1, HR.out.2.2.2.1, HR.out.2.2.2.2⟩)
  obtain ⟨many, rfl⟩ : ∃ n : Nat, k4 = n := ⟨k4.toNat, by omega⟩
  clear H1 hU HR
  go_upto_region 19 with fail
  go_cut [11] from 11 to 11 (fun s wx => s = .int .i64 0 ∧ ∃ (p : Net) (h : Hd) (f : Nat → Bool), UsedW w wx p h U f ∧ NodesOk p (2 + m) ∧ LinksOk p (2 + m) 0 f ∧ p.dests = [] ∧ p.checks = [] ∧ head0 p)
  case first =>
    go_wp2_with fail
    go_meet
    case rel => exact ⟨rfl, HI.out⟩
  case rest =>
  clear HI
  obtain ⟨rfl, hI⟩ := hcut
  have HI := Lib.hid hI
  clear hI
  rename_i hKl
  refine hKl _ _ ?_
  clear hKl
  go_cut [] from 68 to 126 (fun wx => ∃ (p : Net) (h : Hd) (f : Nat → Bool), NS w wx p h ∧ NodesOk p (2 + m) ∧ LinksOk p (2 + m) many f ∧ p.dests = [] ∧ p.checks = [] ∧ head0 p)
  case first =>
    go_wp2_with fail
    go_loopw [11] (fun i wx => ∃ (j : Nat) (p : Net) (h : Hd) (f : Nat → Bool), j ≤ many ∧ i = .int .i64 j ∧ UsedW w wx p h U f ∧ NodesOk p (2 + m) ∧ LinksOk p (2 + m) j f ∧ p.dests = [] ∧ p.checks = [] ∧ head0 p)
      (fun i _ => many - (intOf i).toNat)
    case atStart =>
      obtain ⟨p, h, f, a1, a2, a3, a4, a5, a6⟩ := HI.out
      exact ⟨0, p, h, f, by omega, rfl, a1, a2, a3, a4, a5, a6⟩
    case round =>
      clear HI
      obtain ⟨j, p, h, f, hj, rfl, hU, hN, hL, hd0, hc0, hh0⟩ := hrel
      have HR := Lib.hid (And.intro hN (And.intro hL (And.intro hd0 (And.intro hc0 hh0))))
      clear hN hL hd0 hc0 hh0
      by_cases hlt : j < many
      · have hltz : (j : Int) < (many : Int) := by omega
        go_upto_region 24 with fail
        go_cut [83] (fun s wx => ∃ q : Bool, s = .bool q ∧ (q = false → j + 1 < 2 + m) ∧ UsedW w wx p h U f)
        case first =>
          by_cases hb : 2 + m ≤ j + 1
          · go_wp2_with fail
            go_meet
            case rel => exact ⟨true, rfl, by simp, hU⟩
          · go_wp2_with fail
            refine (nnext hU.ns 4 (by omega) (by omega)).mono ?_
            rintro e w5 ⟨k5, rfl, hk50, hk51, H5, hg5⟩
            have hU5 := hU.next H5 hg5
            go_wp2_with fail
            go_meet
            case rel => exact ⟨_, rfl, fun _ => by omega, hU5⟩
        case rest =>
        obtain ⟨q, rfl, hq, hU1⟩ := hcut
        clear hU
        go_upto_if 83 with fail
        go_cut [12, 13] (fun s t wx => ∃ a b : Nat, s = .int .i64 a ∧ t = .int .i64 b ∧ a < 2 + m ∧ b < 2 + m ∧ UsedW w wx p h U f)
        case first =>
          cases q with
          | true =>
            go_wp2_with fail
            refine (nnext hU1.ns (2 + m) (by omega) (by omega)).mono ?_
            rintro e w5 ⟨k5, rfl, hk50, hk51, H5, hg5⟩
            have hU5 := hU1.next H5 hg5
            go_wp2_with fail
            refine (nnext hU5.ns (2 + m) (by omega) (by omega)).mono ?_
            rintro e w6 ⟨k6, rfl, hk60, hk61, H6, hg6⟩
            have hU6 := hU5.next H6 hg6
            obtain ⟨a, rfl⟩ : ∃ n : Nat, k5 = n := ⟨k5.toNat, by omega⟩
            obtain ⟨b, rfl⟩ : ∃ n : Nat, k6 = n := ⟨k6.toNat, by omega⟩
            go_wp2_with fail
            go_meet
            case rel => exact ⟨a, b, rfl, rfl, by omega, by omega, hU6⟩
          | false =>
            have := hq rfl
            go_wp2_with fail
            go_meet
            case rel => exact ⟨j, j + 1, rfl, by go_num, by omega, by omega, hU1⟩
        case rest =>
        obtain ⟨a, b, rfl, rfl, ha, hb, hU2⟩ := hcut
        clear hU1 hq
        go_upto_if 92 with fail
        go_cut [12, 13] (fun s t wx => ∃ a b : Nat, s = .int .i64 a ∧ t = .int .i64 b ∧ a ≤ b ∧ b < 2 + m ∧ UsedW w wx p h U f)
        case first =>
          by_cases hab : (a : Int) ≤ b
          · go_wp2_with fail
            go_meet
            case rel => exact ⟨a, b, rfl, rfl, by omega, by omega, hU2⟩
          · go_wp2_with fail
            go_meet
            case rel => exact ⟨b, a, rfl, rfl, by omega, by omega, hU2⟩
        case rest =>
        obtain ⟨a, b, rfl, rfl, hab, hb, hU3⟩ := hcut
        clear hU2 ha
        by_cases hne : a = b
        · subst hne
          go_wp2_with fail
          go_roundw
          case rel => exact ⟨j + 1, p, h, f, by omega, by go_num, hU3, HR.out.1, HR.out.2.1.skip, HR.out.2.2⟩
          case measure => simp [intOf]; omega
        have hlt2 : a < b := by omega
        have hne1 : ((a : Int) != (b : Int)) = true := by simp; omega
        have hi49 : 7 * a + b < 49 := by omega
        have hi0 : (0 : Int) ≤ 7 * (a : Int) + b := by omega
        have hi1' : 7 * (a : Int) + b < 49 := by omega
        have hcell := hU3.at_ hi49
        have hfree := hU3.free (7 * a + b)
        have hix : (7 * (a : Int) + (b : Int)).toNat = 7 * a + b := by omega
        by_cases hf : f (7 * a + b) = true
        · rw [hf] at hcell
          go_wp2_with fail
          go_roundw
          case rel => exact ⟨j + 1, p, h, f, by omega, by go_num, hU3, HR.out.1, HR.out.2.1.skip, HR.out.2.2⟩
          case measure => simp [intOf]; omega
        replace hf : f (7 * a + b) = false := by simpa using hf
        rw [hf] at hcell
        have hU4 := hU3.set (7 * a + b)
        have c44 := hU4.ns.all.2.2.2.2.1
        have hsz := hU4.ns.b.size
        have hlb : p.links.length ≤ 20 := by have := HR.out.2.1.len; omega
        go_wp2_with fail
        generalize hW : wc.setCell ⟨U, 7 * a + b, none⟩ (.bool true) = wv at *
        have HW := Lib.hid hW
        clear hW
        go_region_law (first
          | ((refine step_app _ (by rfl) _ _ 26 (by rfl) (w.heap.size + 3) 58 i2 _ 3 24 Tryz.underlying26 hi2 hz2 hs2 hb2 rfl (by decide) _ _ _ (p.links.flatMap lkCells) (by rfl) (by exact Own.alloc H6.b.links _) _ 1 _ (lkCells ⟨a, b, 1 + k5.tmod (1 + k6)⟩) (by rfl) (Rd.new (by simp) rfl) (by intro u hu; simp [ndCells, lkCells, ckCells, dsCells] at hu; rcases hu with rfl | rfl | rfl | rfl | rfl <;> rfl) (by unfold maxLen; omega) (by omega) (by simp; omega) ?_; intro A2 c2 w2 hown2 hgrow2 hblk2 _; ((have c4a : w2.cell? ⟨w.heap.size + 1 + 1, 4, none⟩ = some (.slice h.al p.links.length h.cl) := (H6.alloc0 _).cell2 hgrow2 H6.b.links.from_ 4); (have f4a := (H6.alloc0 _).free2 hgrow2 H6.b.links.from_ 4); (have U7 := UsedW.addLink (U6.alloc _) hgrow2 hown2))))
          | (go_simp; go_at_call 17; refine (nnext H5 15 (by omega) (by omega)).mono ?_; rintro e w6 ⟨k6, rfl, hk60, hk61, H6, g6⟩; (have U6 := U5.next H6 g6); (have c46 := H6.all.2.2.2.2.1); (have n61 : w.heap.size + 1 + 1 < w6.heap.size := by have := H6.b.size; omega); (have hw6 : IntKind.i64.wrap (1 + k6) = 1 + k6 := IntWalk.i64_in _ (by omega)); (have hz6 : 1 + k6 ≠ 0 := by omega); (have ht0 : 0 ≤ k5.tmod (1 + k6) := Int.tmod_nonneg _ hk50); (have ht1 : k5.tmod (1 + k6) < 1 + k6 := Int.tmod_lt_of_pos _ (by omega)); (have hw7 : IntKind.i64.wrap (1 + k5.tmod (1 + k6)) = 1 + k5.tmod (1 + k6) := IntWalk.i64_in _ (by omega)))
          | (go_simp; go_at_call 17; refine (nnext hU4.drew.ns 15 (by omega) (by omega)).mono ?_; rintro e w5 ⟨k5, rfl, hk50, hk51, H5, g5⟩; (have U5 := hU4.drew.next H5 g5); (have c45 := H5.all.2.2.2.2.1)))
        all_goals
          have HZ := Lib.hid (LinksOk.add (p := p) (c := 1 + k5.tmod (1 + k6)) HR.out.2.1 hlt2 hb (by omega) (by omega) hf)
          clear hgrow2 hown2 hblk2 c4a f4a
          go_wp2_with fail
          go_roundw
          case rel => exact ⟨j + 1, _, _, _, by omega, by go_num, U7, HR.out.1, HZ.out, HR.out.2.2⟩
          case measure => simp [intOf]; omega
      · have hge : (many : Int) ≤ (j : Int) := by omega
        have hjm : j = many := by omega
        go_wp2_with fail
        go_meet
        case rel => exact ⟨p, h, f, hU.ns, HR.out.1, hjm ▸ HR.out.2.1, HR.out.2.2⟩
  case rest =>
  clear HI
  obtain ⟨p, h, f, H0, hN, hL, hd0, hc0, hh0⟩ := hcut
  have hk0 := hh0.1
  have hlen : p.links.length ≤ 9 := by have := hL.len; omega
  have HM : Hid (Mid { p with k := min kf p.links.length } (2 + m)) := Lib.hid ⟨hN, hlen, hL.each, hL.pairs, hh0.2, show 0 ≤ min kf (p.links.length : Int) ∧ min kf (p.links.length : Int) ≤ 3 ∧ min kf (p.links.length : Int) ≤ p.links.length from by omega⟩
  have HD := Lib.hid (And.intro hd0 hc0)
  obtain ⟨-, -, c2, -, c4, -, -⟩ := H0.all
  have f2 := H0.free 2
  have H1 := Lib.hid (H0.set (p' := { p with k := min kf p.links.length }) 2 (.int .i64 (min kf p.links.length)) rfl rfl rfl rfl rfl)
  clear hk0 H0 hN hL hd0 hc0 hh0
  go_upto_region 33 with fail
  go_cut [14] from 133 to 134 (fun s wx => ∃ (T : Int) (p : Net) (h : Hd), s = .int .i64 T ∧ 0 ≤ T ∧ T < 2 ∧ NS w wx p h ∧ Mid p (2 + m) ∧ DestsOk p (2 + m) ∧ p.dests = [] ∧ p.checks = [])
  case first =>
    go_wp2_with fail
    refine (nnext H1.out 2 (by omega) (by omega)).mono ?_
    rintro e w5 ⟨T, rfl, hT0, hT1, H5, -⟩
    go_wp2_with fail
    go_meet
    case rel => exact ⟨T, _, _, rfl, hT0, hT1, H5, HM.out, DestsOk.begin HD.out.1, HD.out.1, HD.out.2⟩
  case rest =>
  clear H1 HM HD c2 c4 f2 hlen
  obtain ⟨T, p, h, rfl, hT0, hT1, hI1, hI2, hI3, hI4, hI5⟩ := hcut
  have HI := Lib.hid (And.intro hI1 (And.intro hI2 (And.intro hI3 (And.intro hI4 hI5))))
  clear hI1 hI2 hI3 hI4 hI5
  rename_i hKl
  refine hKl _ _ ?_
  clear hKl
  go_cut [] from 135 to 183 (fun wx => ∃ (p : Net) (h : Hd), NS w wx p h ∧ Mid p (2 + m) ∧ DestsOk p (2 + m) ∧ (1 ≤ p.dests.length ∧ p.dests.length ≤ 2) ∧ p.checks = [])
  case first =>
    go_wp2_with fail
    go_loopw [14] (fun i wx => ∃ (x : Int) (p : Net) (h : Hd), i = .int .i64 x ∧ -1 ≤ x ∧ (p.dests.length : Int) + x = T ∧ NS w wx p h ∧ Mid p (2 + m) ∧ DestsOk p (2 + m) ∧ p.checks = []) (fun i _ => (intOf i + 1).toNat)
    case atStart =>
      obtain ⟨a1, a2, a3, a4, a5⟩ := HI.out
      exact ⟨T, p, h, rfl, by omega, by rw [a4]; simp, a1, a2, a3, a5⟩
    case round =>
      clear HI
      obtain ⟨x, p, h, rfl, hx, hxT, H0, hM, hD, hc0⟩ := hrel
      have HR := Lib.hid (And.intro hM (And.intro hD hc0))
      have HT := Lib.hid hxT
      have hdl : p.dests.length ≤ 2 := by omega
      have hxle : x ≤ 1 := by omega
      clear hM hD hc0
      by_cases hx0 : 0 ≤ x
      · have hlt2 : p.dests.length < 2 := by omega
        have hlt2' : (p.dests.length : Int) < 2 := by omega
        clear hxT
        obtain ⟨nm, hnm⟩ : ∃ s, xys[p.dests.length]? = some s := ⟨_, List.getElem?_eq_getElem (show p.dests.length < xys.length by simp [xys]; omega)⟩
        obtain ⟨-, -, -, -, -, c5, -⟩ := H0.all
        obtain ⟨nd, hnd⟩ : ∃ nd, nd = p.dests.length := ⟨_, rfl⟩
        have HNM := Lib.hid hnm
        rw [← hnd] at hlt2' c5 hnm
        have hcell : (#[.string ⟨#[120]⟩, .string ⟨#[121]⟩] : Array Value)[nd]? = some (.string nm) := by
          have : (#[.string ⟨#[120]⟩, .string ⟨#[121]⟩] : Array Value) = (xys.map Value.string).toArray := rfl
          rw [this]; simp [hnm]
        clear hnm hnd
        have n51 : w.heap.size + 1 + 1 < wr.heap.size := by have := H0.b.size; omega
        go_wp2_with fail
        refine (nnext (DW.begin H0 _ nm).ns (2 + m) (by omega) (by omega)).mono ?_
        rintro e w6 ⟨o, rfl, ho0, ho1, H6, g6⟩
        have D1 := DW.next (DW.begin H0 _ nm) H6 g6
        clear H6 g6 c5 hcell
        have d1 := D1.at1
        have e1 := D1.free 1
        have n1 := D1.lt
        go_upto_region 39 with (at_builtin; refine wpList_app _ rfl _ _ 22 rfl (w.heap.size + 3) 3 i0 (.int .i64 0) 1 8 Tryz.underlying22 hi0 hz0 hs0 hb0 rfl (by decide) _ _ _ (ints []) rfl (by exact (D1.alloc _).own) _ 1 _ [.int .i64 o] rfl (Rd.new (by simp) rfl) (by intro u hu; simp at hu; subst hu; rfl) (by unfold maxLen; omega) (by omega) (by simp; omega) ?_; intro A2 c2 w2 hown2 hgrow2 hblk2 _; ((have d2 := (D1.alloc _).cell2 hgrow2); (have e2 := (D1.alloc _).free2 hgrow2 1); (have D2 := DW.app (D1.alloc _) (by rfl) hgrow2 hblk2 hown2)))
        clear hgrow2 hown2 hblk2 d2 e2 d1 e1 n1 D1
        go_cut [163] (fun s wx => ∃ q : Bool, s = .bool q ∧ (q = true → o + 1 < 2 + (m : Int)) ∧ DW w wx p h (wr.heap.size + 1) nm ([] ++ [o]) A2 c2)
        case first =>
          go_wp2_with fail
          refine (nnext D2.ns 3 (by omega) (by omega)).mono ?_
          rintro e w7 ⟨k7, rfl, hk70, hk71, H7, g7⟩
          have D3 := D2.next H7 g7
          clear H7 g7 D2
          by_cases hk7 : k7 = 0
          · subst hk7
            go_wp2_with fail
            go_meet
            case rel => exact ⟨_, rfl, fun hh => by simpa using hh, D3⟩
          · have hk7' : (k7 == 0) = false := by simpa using hk7
            go_wp2_with fail
            go_meet
            case rel => exact ⟨_, rfl, fun hh => by simp at hh, D3⟩
        case rest =>
        obtain ⟨q, rfl, hq, D3⟩ := hcut
        clear D2
        go_upto_if 163 with fail
        go_cut [] (fun wx => ∃ (os : List Int) (A : Option Addr) (c : Nat), OrOk os (2 + m) ∧ DW w wx p h (wr.heap.size + 1) nm os A c)
        case first =>
          cases q with
          | true =>
            have ho2 := hq rfl
            have d3 := D3.drew.at1
            have e3 := D3.drew.free 1
            have n3 := D3.lt
            have s1 : IntKind.i64.wrap (o + 1) = o + 1 := IntWalk.i64_in _ (by omega)
            have s2 : IntKind.i64.wrap (2 + (m : Int) - o) = 2 + (m : Int) - o := IntWalk.i64_in _ (by omega)
            have s3 : IntKind.i64.wrap (2 + (m : Int) - o - 1) = 2 + (m : Int) - o - 1 := IntWalk.i64_in _ (by omega)
            go_wp2_with fail
            go_region_law (first
              | ((refine step_app _ (by rfl) _ _ 22 (by rfl) (w.heap.size + 3) 3 i0 _ 1 8 Tryz.underlying22 hi0 hz0 hs0 hb0 rfl (by decide) _ _ _ (ints [o]) (by rfl) (by exact (D8.alloc _).own) _ 1 _ [.int .i64 (o + 1 + k8)] (by rfl) (Rd.new (by simp) rfl) (by intro u hu; simp [ndCells, lkCells, ckCells, dsCells] at hu; rcases hu with rfl | rfl | rfl | rfl | rfl <;> rfl) (by unfold maxLen; omega) (by omega) (by simp; omega) ?_; intro A2 c2 w2 hown2 hgrow2 hblk2 _; ((have d9 := (D8.alloc _).cell2 hgrow2); (have e9 := (D8.alloc _).free2 hgrow2 1); (have D9 := DW.app (D8.alloc _) (by rfl) hgrow2 hblk2 hown2))))
              | (go_simp; go_at_call 17; refine (nnext D3.drew.ns (2 + (m : Int) - o - 1) (by omega) (by omega)).mono ?_; rintro e w8 ⟨k8, rfl, hk80, hk81, H8, g8⟩; (have D8 := D3.drew.next H8 g8); (have d8 := D8.at1); (have n8 := D8.lt); (have s4 : IntKind.i64.wrap (o + 1 + k8) = o + 1 + k8 := IntWalk.i64_in _ (by omega))))
            all_goals
              clear hgrow2 hown2 hblk2 d9 e9
              go_wp2_with fail
              go_meet
              case rel => exact ⟨[o, o + 1 + k8], _, _, .inr ⟨o, o + 1 + k8, rfl, ho0, by omega, by omega⟩, D9⟩
          | false =>
            go_wp2_with fail
            go_meet
            case rel => exact ⟨[o], _, _, .inl ⟨o, rfl, ho0, by omega⟩, D3⟩
        case rest =>
        obtain ⟨os, A3, c3, hos, D4⟩ := hcut
        clear D3
        have q0 := D4.at0
        have q1 := D4.at1
        obtain ⟨-, -, -, -, -, c5, -⟩ := D4.ns.all
        have n4 := D4.lt
        have n5 : w.heap.size + 1 + 1 < wc.heap.size := by have := D4.ns.b.size; omega
        have G4 := fun o => D4.alloc o
        go_wp2_with (at_builtin; go_loud (refine wpList_app _ rfl _ _ 27 rfl (w.heap.size + 3) 60 i3 _ 2 40 Tryz.underlying27 hi3 hz3 hs3 hb3 rfl (by decide) _ _ _ ((p.dests.zip h.dv).flatMap dsCells) rfl ?hown _ 1 _ (dsCells ((⟨nm, os⟩ : Ds), (A3, c3))) rfl (Rd.new (by simp) rfl) ?h1 ?h63 ?hby ?hB ?_); go_loud (case hown => exact (G4 _).ns.b.dests); go_loud (case h1 => intro u hu; simp [dsCells] at hu; rcases hu with rfl | rfl <;> rfl); go_loud (case h63 => unfold maxLen; omega); go_loud (case hby => omega); go_loud (case hB => simp; omega); intro A2 c2 w2 hown2 hgrow2 hblk2 _; go_loud (have c5b := (G4 _).ns.cell2 hgrow2 D4.ns.b.dests.from_ 5); go_loud (have f5b := (G4 _).ns.free2 hgrow2 D4.ns.b.dests.from_ 5); go_loud (have H9 := NS.addDest (x := ⟨nm, os⟩) (o := (A3, c3)) (G4 _).ns (G4 _).own hgrow2 hown2))
        have HD := Lib.hid (DestsOk.add HR.out.2.1 HNM.out hos)
        have HL := Lib.hid (show ((p.dests ++ [(⟨nm, os⟩ : Ds)]).length : Int) + (x - 1) = T from by rw [List.length_append, List.length_singleton]; have := HT.out; omega)
        clear hgrow2 hown2 hblk2 c5b f5b
        go_roundw
        case rel => exact ⟨x - 1, _, _, by go_num, by omega, HL.out, H9, HR.out.1.same rfl rfl rfl rfl rfl, HD.out, HR.out.2.2⟩
        case measure => simp [intOf]; omega
      · have hx1 : x = -1 := by omega
        have hd1 : 1 ≤ p.dests.length := by omega
        have hdn : ¬ (0 : Int) ≤ x := hx0
        clear hxT
        go_wp2_with fail
        go_meet
        case rel => exact ⟨p, h, H0, HR.out.1, HR.out.2.1, ⟨hd1, hdl⟩, HR.out.2.2⟩
  case rest =>
  clear HI
  obtain ⟨p, h, H0, hM, hD, hdl, hc0⟩ := hcut
  have HR := Lib.hid (And.intro hM (And.intro hD (And.intro hdl hc0)))
  clear hM hD hdl hc0
  go_upto_region 42 with fail
  go_cut [17] from 184 to 185 (fun s wx => ∃ (C : Int) (p : Net) (h : Hd), s = .int .i64 C ∧ 0 ≤ C ∧ C < 7 ∧ NS w wx p h ∧ Mid p (2 + m) ∧ DestsOk p (2 + m) ∧ (1 ≤ p.dests.length ∧ p.dests.length ≤ 2) ∧ p.checks = [])
  case first =>
    go_wp2_with fail
    refine (nnext H0 7 (by omega) (by omega)).mono ?_
    rintro e w6 ⟨C, rfl, hC0, hC1, H6, -⟩
    go_wp2_with fail
    go_meet
    case rel => exact ⟨C, _, _, rfl, hC0, hC1, H6, HR.out⟩
  case rest =>
  clear H0 HR
  obtain ⟨C, p, h, rfl, hC0, hC1, hI1, hI2⟩ := hcut
  have HI := Lib.hid (And.intro hI1 hI2)
  clear hI1 hI2
  rename_i hKl
  refine hKl _ _ ?_
  clear hKl
  go_cut [] from 186 to 225 (fun wx => ∃ (p : Net) (h : Hd), NS w wx p h ∧ Mid p (2 + m) ∧ DestsOk p (2 + m) ∧ (1 ≤ p.dests.length ∧ p.dests.length ≤ 2) ∧ p.checks.length ≤ 6 ∧ ∀ c ∈ p.checks, checkB p c = true)
  case first =>
    go_wp2_with fail
    go_loopw [17] (fun i wx => ∃ (y : Int) (p : Net) (h : Hd), i = .int .i64 y ∧ 0 ≤ y ∧ (p.checks.length : Int) + y ≤ 6 ∧ NS w wx p h ∧ Mid p (2 + m) ∧ DestsOk p (2 + m) ∧ (1 ≤ p.dests.length ∧ p.dests.length ≤ 2) ∧ ∀ c ∈ p.checks, checkB p c = true) (fun i _ => (intOf i).toNat)
    case atStart =>
      obtain ⟨a1, a2, a3, a4, a5⟩ := HI.out
      exact ⟨C, p, h, rfl, by omega, by rw [a5]; simp; omega, a1, a2, a3, a4, by rw [a5]; simp⟩
    case round =>
      clear HI
      obtain ⟨y, p, h, rfl, hy, hyC, H0, hM, hD, hdl, hck⟩ := hrel
      have HR := Lib.hid (And.intro hM (And.intro hD (And.intro hdl hck)))
      have HN := Lib.hid hM.nodes.1
      obtain ⟨hd1, hd2⟩ := hdl
      have hcl : p.checks.length ≤ 6 := by omega
      clear hM hD hck
      by_cases hy0 : 0 < y
      · have hdz : (0 : Int) < p.dests.length := by omega
        have c5 := H0.all.2.2.2.2.2.1
        have c5d : wr.drew.cell? ⟨w.heap.size + 1 + 1, 5, none⟩ = some (.slice h.ad p.dests.length h.cd) := c5
        have z0 := H0.b.size
        have nDa : (0 : Int) < p.dests.length := hdz
        have nDb : (p.dests.length : Int) < 1000000 := by omega
        have nNa : (0 : Int) < 2 + (m : Int) := by omega
        have nNb : 2 + (m : Int) < 1000000 := by omega
        have n4a : (0 : Int) < 4 := by decide
        have n4b : (4 : Int) < 1000000 := by decide
        have z0d : w.heap.size + 3 ≤ wr.drew.heap.size := z0
        go_upto_region 45 with fail
        go_cut [18] (fun v wx => ∃ (C : Nat) (x : Ck), v = .pointer (some ⟨C, 0, none⟩) ∧ CW w wx p h C x ∧ (1 ≤ x.kind ∧ x.kind ≤ 4 ∧ 0 ≤ x.node ∧ x.node < p.nodes.length ∧ 0 ≤ x.dest ∧ x.dest < p.dests.length ∧ x.limit = 0 ∧ x.other = 0))
        case first =>
          rename_i J0 K0 hJ0 hK0
          have hM0 : Meet J0 K0 := hK0
          go_light
          have hK0 := hM0
          unfold Meet at hK0
          clear hM0
          have HNN := Lib.hid (show (p.nodes.length : Int) = 2 + (m : Int) from by rw [HN.out]; omega)
          go_region_held3 (fun wx => wx.cell? ⟨w.heap.size + 1 + 1, 5, none⟩ = some (.slice h.ad p.dests.length h.cd)) (first | with_reducible exact c59 | with_reducible exact c58 | with_reducible exact c57 | with_reducible exact c5d | with_reducible exact keep_alloc c59 _ | with_reducible exact keep_alloc c58 _ | with_reducible exact keep_alloc c57 _ | with_reducible exact keep_alloc c5d _ | with_reducible exact keep_alloc_drew c5 _ | with_reducible exact keep_set5 c59 (by omega)) (first
            | (go_at_call 17; ((with_reducible refine (nnext H8 p.dests.length nDa nDb).mono ?_); rintro e w9 ⟨k9, rfl, hk90, hk91, H9, g9⟩; (have c59 := H9.all.2.2.2.2.2.1); (have z9 := H9.b.size); (have q9 := CW.next q8 H9 g9); (obtain ⟨y90, y91, y92, y93, y94⟩ := q9.all); (have yf9 := q9.free)))
            | (go_at_call 17; ((with_reducible refine (nnext H8 p.dests.length nDa nDb).mono ?_); rintro e w9 ⟨k9, rfl, hk90, hk91, H9, g9⟩; (have c59 := H9.all.2.2.2.2.2.1); (have z9 := H9.b.size)))
            | (go_at_call 17; ((with_reducible refine (nnext (H8.alloc0 _) p.dests.length nDa nDb).mono ?_); rintro e w9 ⟨k9, rfl, hk90, hk91, H9, g9⟩; (have c59 := H9.all.2.2.2.2.2.1); (have z9 := H9.b.size); (have q9 := CW.next (CW.begin H8 ⟨0, 0, 0, 0, 0⟩) H9 g9); (obtain ⟨y90, y91, y92, y93, y94⟩ := q9.all); (have yf9 := q9.free)))
            | (go_at_call 17; ((with_reducible refine (nnext H7 (2 + m) nNa nNb).mono ?_); rintro e w8 ⟨k8, rfl, hk80, hk81, H8, g8⟩; (have c58 := H8.all.2.2.2.2.2.1); (have z8 := H8.b.size); (have q8 := CW.next q7 H8 g8); (obtain ⟨y80, y81, y82, y83, y84⟩ := q8.all); (have yf8 := q8.free)))
            | (go_at_call 17; ((with_reducible refine (nnext H7 (2 + m) nNa nNb).mono ?_); rintro e w8 ⟨k8, rfl, hk80, hk81, H8, g8⟩; (have c58 := H8.all.2.2.2.2.2.1); (have z8 := H8.b.size)))
            | (go_at_call 17; ((with_reducible refine (nnext (H7.alloc0 _) (2 + m) nNa nNb).mono ?_); rintro e w8 ⟨k8, rfl, hk80, hk81, H8, g8⟩; (have c58 := H8.all.2.2.2.2.2.1); (have z8 := H8.b.size); (have q8 := CW.next (CW.begin H7 ⟨0, 0, 0, 0, 0⟩) H8 g8); (obtain ⟨y80, y81, y82, y83, y84⟩ := q8.all); (have yf8 := q8.free)))
            | (go_at_call 17; ((with_reducible refine (nnext H0.drew 4 n4a n4b).mono ?_); rintro e w7 ⟨k7, rfl, hk70, hk71, H7, g7⟩; (have c57 := H7.all.2.2.2.2.2.1); (have z7 := H7.b.size); (have hw7 : IntKind.i64.wrap (1 + k7) = 1 + k7 := wrap_small hk70 hk71)))
            | (go_at_call 17; ((with_reducible refine (nnext (H0.alloc0 _).drew 4 n4a n4b).mono ?_); rintro e w7 ⟨k7, rfl, hk70, hk71, H7, g7⟩; (have c57 := H7.all.2.2.2.2.2.1); (have z7 := H7.b.size); (have hw7 : IntKind.i64.wrap (1 + k7) = 1 + k7 := wrap_small hk70 hk71); (have q7 := CW.next (CW.begin H0 ⟨0, 0, 0, 0, 0⟩).drew H7 g7); (obtain ⟨y70, y71, y72, y73, y74⟩ := q7.all); (have yf7 := q7.free))))
          all_goals
            refine hK0 _ _ (Met.intro (hJ0 _ _ ?_))
            repeat apply Exists.intro
            refine ⟨?_, rfl⟩
            clear hK0 hJ0
            have hb8 : (1 : Int) ≤ 1 + k7 ∧ 1 + k7 ≤ 4 ∧ 0 ≤ k8 ∧ k8 < p.nodes.length ∧ 0 ≤ k9 ∧ k9 < p.dests.length ∧ (0 : Int) = 0 ∧ (0 : Int) = 0 := by rw [HNN.out]; exact ⟨by omega, by omega, hk80, hk81, hk90, hk91, rfl, rfl⟩
            refine ⟨_, ⟨1 + k7, k8, k9, 0, 0⟩, rfl, ?_, hb8⟩
            first
              | exact q9.put ⟨1 + k7, k8, k9, 0, 0⟩
              | exact CW.begin H9 ⟨1 + k7, k8, k9, 0, 0⟩
        case rest =>
        obtain ⟨C, x, rfl, hC, hx⟩ := hcut
        have HXA : Hid (CkIn p x ∧ x.limit = 0 ∧ x.other = 0) := Lib.hid ⟨⟨hx.1, hx.2.1, hx.2.2.1, hx.2.2.2.1, hx.2.2.2.2.1, hx.2.2.2.2.2.1⟩, hx.2.2.2.2.2.2⟩
        have HNB := Lib.hid (And.intro nNa nNb)
        clear hx H0 c5 c5d z0 z0d nDa nDb nNa nNb n4a n4b hdz
        obtain ⟨y0, y1, y2, y3, y4⟩ := hC.all
        have nl := lt_heap hC.c
        go_upto_if 204 with fail
        go_cut [] (fun wx => ∃ x : Ck, CW w wx p h C x ∧ CkA p x)
        case first =>
          have yf := hC.free
          by_cases hk2 : x.kind = 2
          · have hk2' : (x.kind == 2) = true := by simp [hk2]
            have HK := Lib.hid hk2
            clear hk2
            go_wp2_with fail
            refine (nnext hC.ns 20 (by omega) (by omega)).mono ?_
            rintro e w7 ⟨k7, rfl, hk70, hk71, H7, g7⟩
            have q7 := hC.next H7 g7
            obtain ⟨z0, z1, z2, z3, z4⟩ := q7.all
            have zf := q7.free 3
            have Q7 := Lib.hid (q7.set (x' := { x with limit := k7 }) 3 (.int .i64 k7) rfl)
            clear q7 H7 g7 yf hC
            go_wp2_with fail
            go_meet
            case rel => exact ⟨_, Q7.out, CkA.limit HXA.out.1 HXA.out.2.2 HK.out hk70 hk71⟩
          · have hk2' : (x.kind == 2) = false := by simp [hk2]
            clear hk2
            go_wp2_with fail
            go_meet
            case rel => exact ⟨x, hC, CkA.none HXA.out.1 HXA.out.2.2 HXA.out.2.1⟩
        case rest =>
        clear HXA y0 y1 y2 y3 y4 nl hC
        obtain ⟨x, hC, hx⟩ := hcut
        have HXA := Lib.hid hx
        clear hx
        obtain ⟨y0, y1, y2, y3, y4⟩ := hC.all
        have nl := lt_heap hC.c
        go_upto_region 48 with fail
        go_cut [215] (fun s wx => s = .bool (decide (x.kind = 3 ∨ x.kind = 4)) ∧ CW w wx p h C x)
        case first =>
          by_cases hk3 : x.kind = 3
          · have hk3' : (x.kind == 3) = true := by simp [hk3]
            have HK := Lib.hid hk3
            clear hk3
            go_wp2_with fail
            go_meet
            case rel => exact ⟨by simp [HK.out], hC⟩
          · have hk3' : (x.kind == 3) = false := by simp [hk3]
            have HK := Lib.hid hk3
            clear hk3
            by_cases hk4 : x.kind = 4
            · have hk4' : (x.kind == 4) = true := by simp [hk4]
              have HK4 := Lib.hid hk4
              clear hk4
              go_wp2_with fail
              go_meet
              case rel => exact ⟨by simp [HK4.out], hC⟩
            · have hk4' : (x.kind == 4) = false := by simp [hk4]
              have HK4 := Lib.hid hk4
              clear hk4
              go_wp2_with fail
              go_meet
              case rel => exact ⟨by simp [HK.out, HK4.out], hC⟩
        case rest =>
        clear y0 y1 y2 y3 y4 nl hC
        obtain ⟨rfl, hC⟩ := hcut
        go_upto_if 215 with fail
        go_cut [] (fun wx => ∃ x : Ck, CW w wx p h C x ∧ CkB p x)
        case first =>
          by_cases hk : x.kind = 3 ∨ x.kind = 4
          · have HK := Lib.hid hk
            have hk' : decide (x.kind = 3 ∨ x.kind = 4) = true := by simp [hk]
            rw [hk']
            clear hk hk'
            go_wp2_with fail
            refine (nnext hC.ns (2 + m) HNB.out.1 HNB.out.2).mono ?_
            rintro e w7 ⟨k7, rfl, hk70, hk71, H7, g7⟩
            have q7 := hC.next H7 g7
            obtain ⟨z0, z1, z2, z3, z4⟩ := q7.all
            have zf := q7.free 4
            have zl := lt_heap q7.c
            have Q7 := Lib.hid (q7.set (x' := { x with other := k7 }) 4 (.int .i64 k7) rfl)
            clear q7 H7 g7 hC
            go_wp2_with fail
            go_meet
            case rel => exact ⟨_, Q7.out, CkB.other HXA.out HK.out hk70 (by have := HN.out; omega)⟩
          · have HK := Lib.hid hk
            have hk' : decide (x.kind = 3 ∨ x.kind = 4) = false := by simp [hk]
            rw [hk']
            clear hk hk'
            go_wp2_with fail
            go_meet
            case rel => exact ⟨x, hC, CkB.none HXA.out HK.out⟩
        case rest =>
        clear HXA hC
        obtain ⟨x, hC, hx⟩ := hcut
        have HXB := Lib.hid hx.check
        clear hx
        obtain ⟨y0, y1, y2, y3, y4⟩ := hC.all
        have c6 := hC.ns.all.2.2.2.2.2.2
        have nl := lt_heap hC.c
        have n5 : w.heap.size + 1 + 1 < wc.heap.size := by have := hC.ns.b.size; omega
        have G4 := fun o => hC.ns.alloc0 o
        go_wp2_with (at_builtin; go_loud (refine wpList_app _ rfl _ _ 28 rfl (w.heap.size + 3) 62 i4 _ 5 40 Tryz.underlying28 hi4 hz4 hs4 hb4 rfl (by decide) _ _ _ (p.checks.flatMap ckCells) rfl ?hown _ 1 _ (ckCells x) rfl (Rd.new (by simp) rfl) ?h1 ?h63 ?hby ?hB ?_); go_loud (case hown => exact (G4 _).b.checks); go_loud (case h1 => intro u hu; simp [ckCells] at hu; rcases hu with rfl | rfl | rfl | rfl | rfl <;> rfl); go_loud (case h63 => unfold maxLen; omega); go_loud (case hby => omega); go_loud (case hB => simp; omega); intro A2 c2 w2 hown2 hgrow2 hblk2 _; go_loud (have c6b := (G4 _).cell2 hgrow2 hC.ns.b.checks.from_ 6); go_loud (have f6b := (G4 _).free2 hgrow2 hC.ns.b.checks.from_ 6); go_loud (have H9 := NS.addCheck (x := x) (G4 _) hgrow2 hown2))
        have HL := Lib.hid (show ((p.checks ++ [x]).length : Int) + (y - 1) ≤ 6 from by rw [List.length_append, List.length_singleton]; omega)
        have HCK := Lib.hid (checks_add HR.out.2.2.2 HXB.out)
        clear hgrow2 hown2 hblk2 c6b f6b
        go_roundw
        case rel => exact ⟨y - 1, _, _, by go_num, by omega, HL.out, H9, HR.out.1.same rfl rfl rfl rfl rfl, HR.out.2.1.same rfl, HR.out.2.2.1, HCK.out⟩
        case measure => simp [intOf]; omega
      · have hy1 : y = 0 := by omega
        subst hy1
        go_wp2_with fail
        go_meet
        case rel => exact ⟨p, h, H0, HR.out.1, HR.out.2.1, HR.out.2.2.1, hcl, HR.out.2.2.2⟩
  case rest =>
  clear HI
  obtain ⟨p, h, H0, hM, hD, hdl, hcl, hck⟩ := hcut
  have HP := Lib.hid (H0.post (NetOk.of (by omega) hM hD hdl hcl hck))
  obtain ⟨c0, c1, c2, c3, c4, c5, c6⟩ := H0.all
  obtain ⟨rf, r0, r1, r2, r3, r4, r5, r6⟩ := H0.res
  have z0 := H0.b.size
  clear hM hD hdl hcl hck H0
  go_wp2
  exact bodyPost_ret (v := netV p h) (by simp [results, Tryz.results5, go_sem, netV, netVal, r0, r1, r2, r3, r4, r5, r6]) rfl HP.out
end Go.Proofs.YtakolnmoieiicaaGreat

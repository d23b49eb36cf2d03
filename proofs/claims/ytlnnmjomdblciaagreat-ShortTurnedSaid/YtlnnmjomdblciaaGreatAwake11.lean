/- The example of backstaylaw11.awake, plainly and walked. -/
import Derived.Test.YtlnnmjomdblciaaGreatShortX
import Derived.Test.YtlnnmjomdblciaaGreatNetD
namespace Go.Proofs.YtlnnmjomdblciaaGreat
set_option linter.unusedSimpArgs false
set_option linter.unusedVariables false
open Go.RowKit

def pr11 : Net := ⟨2, 2, 0, [⟨⟨#[97]⟩, 1⟩, ⟨⟨#[98]⟩, 2⟩, ⟨⟨#[99]⟩, 3⟩, ⟨⟨#[100]⟩, 4⟩], [⟨0, 1, 1⟩, ⟨1, 2, 1⟩, ⟨2, 3, 1⟩, ⟨0, 3, 9⟩], [⟨⟨#[120]⟩, [0]⟩], []⟩
theorem good_r11 : Good pr11 where
  small := ⟨by decide, by decide, by decide, by decide, by intro d hd; simp [pr11] at hd; subst hd; decide⟩
  names := by decide +kernel
  right := by decide +kernel
theorem ways11 : waysN pr11 0 0 2 = [[0, 1, 2], [0, 3, 2]] := by decide +kernel
theorem best11a : bestO pr11 0 2 (orgOf pr11 ((0 : Nat) : Int)) = ⟨2, 0, [2, 1]⟩ := by kernel_rfl
theorem best11b : bestO pr11 2 2 (orgOf pr11 ((0 : Nat) : Int)) = ⟨2, 0, [4, 1]⟩ := by kernel_rfl
theorem best11c : bestO pr11 3 1 (orgOf pr11 ((0 : Nat) : Int)) = ⟨0, 0, []⟩ := by kernel_rfl
theorem along11 : wayR pr11 0 [0, 3] = ⟨2, 0, [4]⟩ := by kernel_rfl
theorem apart11 : apartB pr11 = true := by decide +kernel
theorem way11 : WayQ pr11 0 [0, 3] := ⟨3, 0, by decide, by decide, by
  refine (mem_waysN good_r11.lksOk (by decide) _).1 ?_
  decide +kernel⟩
theorem org11 : ∀ b ∈ orgOf pr11 (0 : Nat), 0 ≤ b ∧ b < pr11.nodes.length := by decide +kernel

def h11 (n : Nat) : Hd := ⟨some ⟨n + 1, 0, none⟩, 4, some ⟨n + 1 + 1, 0, none⟩, 4, some ⟨n + 1 + 1 + 1 + 1, 0, none⟩, 1, none, 0, [(some ⟨n + 1 + 1 + 1, 0, none⟩, 1)]⟩
def w11L (n : Nat) : List Obj := [.cells #[.string ⟨#[97]⟩, .int .i64 1, .string ⟨#[98]⟩, .int .i64 2, .string ⟨#[99]⟩, .int .i64 3, .string ⟨#[100]⟩, .int .i64 4] 63, .cells #[.int .i64 0, .int .i64 1, .int .i64 1, .int .i64 1, .int .i64 2, .int .i64 1, .int .i64 2, .int .i64 3, .int .i64 1, .int .i64 0, .int .i64 3, .int .i64 9] 76, .cells #[.int .i64 0] 3, .cells #[.string ⟨#[120]⟩, .slice (some ⟨n + 1 + 1 + 1, 0, none⟩) 1 1] 78]
theorem net11 {w wr : World} {o : Obj} (a : Bl w wr (o :: w11L w.heap.size)) : NetR wr wr.heap.size pr11 (h11 w.heap.size) := by
  refine ⟨?_, ?_, ?_, ?_, ?_, ?_⟩
  · exact a.rd (i := 1) (m := 4) (s := 2) rfl rfl
  · exact a.rd (i := 2) (m := 4) (s := 3) rfl rfl
  · rfl
  · exact a.rd (i := 4) (m := 1) (s := 2) rfl rfl
  · intro z hz
    simp [pr11, h11] at hz
    subst hz
    exact a.rd (i := 3) (m := 1) (s := 1) rfl rfl
  · exact Rd.nil _
set_option maxRecDepth 100000 in
set_option maxHeartbeats 2000000 in
theorem ring_any (w : World) : Calls Tryz.prog 54 #[] w (PairPost pr11 w) := by
  go_enter Tryz.func54, Tryz.ntmps54
  go_wp2
  refine bodyPost_ret (v := .agg #[.int .i64 2, .int .i64 2, .int .i64 0, .slice (some ⟨w.heap.size + 1, 0, none⟩) 4 4, .slice (some ⟨w.heap.size + 1 + 1, 0, none⟩) 4 4, .slice (some ⟨w.heap.size + 1 + 1 + 1 + 1, 0, none⟩) 1 1, .slice none 0 0]) (by simp [results, Tryz.results54, go_sem]) rfl ⟨h11 w.heap.size, rfl, ?_, by go_grown⟩
  exact (net11 (w := w) ((((((Bl.begin w).push (by simp) _).push (by simp) _).push (by simp) _).push (by simp) _).push (by simp) _))

/-! ### Texts of numbers -/
set_option maxRecDepth 100000 in
theorem dg1 (w : World) : Calls Tryz.prog 73 #[.int .i64 1] w fun e w' => e = .returned (.string ⟨#[49]⟩) ∧ Below w.heap.size w w' := by
  have kc := run_convert_bytes_back (P := Tryz.prog) (w.alloc (.cells #[.int .u8 49] 5)) 135 9 5 ⟨w.heap.size, 0, none⟩ 1 [49] Tryz.underlying135 Tryz.underlying5 Tryz.underlying9 (by intro j hj; have : j = 0 := (by simpa using hj); subst this; rw [Addr.add_lit]; exact World.cell?_alloc_new _ _ _ _)
  have hl : ([49] : List UInt8).length = 1 := rfl
  rw [hl] at kc
  go_enter Tryz.func73, Tryz.ntmps73
  go_wp2
  go_ret
  exact ⟨rfl, by go_grown⟩
set_option maxRecDepth 100000 in
theorem dg2 (w : World) : Calls Tryz.prog 73 #[.int .i64 2] w fun e w' => e = .returned (.string ⟨#[50]⟩) ∧ Below w.heap.size w w' := by
  have kc := run_convert_bytes_back (P := Tryz.prog) (w.alloc (.cells #[.int .u8 50] 5)) 135 9 5 ⟨w.heap.size, 0, none⟩ 1 [50] Tryz.underlying135 Tryz.underlying5 Tryz.underlying9 (by intro j hj; have : j = 0 := (by simpa using hj); subst this; rw [Addr.add_lit]; exact World.cell?_alloc_new _ _ _ _)
  have hl : ([50] : List UInt8).length = 1 := rfl
  rw [hl] at kc
  go_enter Tryz.func73, Tryz.ntmps73
  go_wp2
  go_ret
  exact ⟨rfl, by go_grown⟩
set_option maxRecDepth 100000 in
theorem dg4 (w : World) : Calls Tryz.prog 73 #[.int .i64 4] w fun e w' => e = .returned (.string ⟨#[52]⟩) ∧ Below w.heap.size w w' := by
  have kc := run_convert_bytes_back (P := Tryz.prog) (w.alloc (.cells #[.int .u8 52] 5)) 135 9 5 ⟨w.heap.size, 0, none⟩ 1 [52] Tryz.underlying135 Tryz.underlying5 Tryz.underlying9 (by intro j hj; have : j = 0 := (by simpa using hj); subst this; rw [Addr.add_lit]; exact World.cell?_alloc_new _ _ _ _)
  have hl : ([52] : List UInt8).length = 1 := rfl
  rw [hl] at kc
  go_enter Tryz.func73, Tryz.ntmps73
  go_wp2
  go_ret
  exact ⟨rfl, by go_grown⟩
set_option maxRecDepth 100000 in
set_option maxHeartbeats 2000000 in
theorem print21 (A : Option Addr) (c : Nat) (w : World) (h : Rd w w.heap.size 1 A 2 (ints [2, 1])) : Calls Tryz.prog 43 #[.agg #[.int .i64 2, .int .i64 0, .slice A 2 c]] w fun e w' => e = .returned (.string ⟨#[91, 50, 32, 49, 93]⟩) ∧ Below w.heap.size w w' := by
  obtain ⟨b, o, rfl, hb, hc⟩ := h.2 (by omega)
  have x0 : w.cell? ⟨b, o, none⟩ = some (.int .i64 2) := hc 0 _ rfl
  have x1 : w.cell? ⟨b, o + 1, none⟩ = some (.int .i64 1) := hc 1 _ rfl
  have HC : Hid (∀ wy, Bl w wy [.cells #[.int .i64 2, .int .i64 0, .slice (some ⟨b, o, none⟩) 2 c] 24] → wy.cell? ⟨b, o, none⟩ = some (.int .i64 2) ∧ wy.cell? ⟨b, o + 1, none⟩ = some (.int .i64 1) ∧ wy.cell? ⟨w.heap.size, 0, none⟩ = some (.int .i64 2) ∧ wy.cell? ⟨w.heap.size, 1, none⟩ = some (.int .i64 0) ∧ wy.cell? ⟨w.heap.size, 2, none⟩ = some (.slice (some ⟨b, o, none⟩) 2 c)) := Lib.hid (fun wy a =>
    ⟨(a.below.cell (p := ⟨b, o, none⟩) hb).trans x0, (a.below.cell (p := ⟨b, o + 1, none⟩) hb).trans x1, a.cell (i := 0) (k := 0) rfl, a.cell (i := 0) (k := 1) rfl, a.cell (i := 0) (k := 2) rfl⟩)
  have B0 := Lib.hid ((Bl.begin w).push (by simp) (.cells #[.int .i64 2, .int .i64 0, .slice (some ⟨b, o, none⟩) 2 c] 24))
  obtain ⟨c0, c1, c2, c3, c4⟩ := HC.out _ B0.out
  clear x0 x1 hc h
  go_enter Tryz.func43, Tryz.ntmps43
  go_wp2_with fail
  refine wp_loop_rounds 3 ?_
  rw [rounds_succ]
  go_wp2_with (go_at_call 73; refine (dg2 _).mono ?_; rintro e w1 ⟨rfl, hb1⟩; have B1 := Lib.hid (B0.out.call hb1); obtain ⟨d0, d1, d2, d3, d4⟩ := HC.out _ B1.out)
  clear c0 c1 c2 c3 c4 hb1
  rw [rounds_succ]
  go_wp2_with (go_at_call 73; refine (dg1 _).mono ?_; rintro e w2 ⟨rfl, hb2⟩; have B2 := Lib.hid (B1.out.call hb2); obtain ⟨e0, e1, e2, e3, e4⟩ := HC.out _ B2.out)
  clear d0 d1 d2 d3 d4 hb2
  rw [rounds_succ]
  go_wp2
  go_ret
  exact ⟨rfl, B2.out.below⟩
set_option maxRecDepth 100000 in
set_option maxHeartbeats 2000000 in
theorem print41 (A : Option Addr) (c : Nat) (w : World) (h : Rd w w.heap.size 1 A 2 (ints [4, 1])) : Calls Tryz.prog 43 #[.agg #[.int .i64 2, .int .i64 0, .slice A 2 c]] w fun e w' => e = .returned (.string ⟨#[91, 52, 32, 49, 93]⟩) ∧ Below w.heap.size w w' := by
  obtain ⟨b, o, rfl, hb, hc⟩ := h.2 (by omega)
  have x0 : w.cell? ⟨b, o, none⟩ = some (.int .i64 4) := hc 0 _ rfl
  have x1 : w.cell? ⟨b, o + 1, none⟩ = some (.int .i64 1) := hc 1 _ rfl
  have HC : Hid (∀ wy, Bl w wy [.cells #[.int .i64 2, .int .i64 0, .slice (some ⟨b, o, none⟩) 2 c] 24] → wy.cell? ⟨b, o, none⟩ = some (.int .i64 4) ∧ wy.cell? ⟨b, o + 1, none⟩ = some (.int .i64 1) ∧ wy.cell? ⟨w.heap.size, 0, none⟩ = some (.int .i64 2) ∧ wy.cell? ⟨w.heap.size, 1, none⟩ = some (.int .i64 0) ∧ wy.cell? ⟨w.heap.size, 2, none⟩ = some (.slice (some ⟨b, o, none⟩) 2 c)) := Lib.hid (fun wy a =>
    ⟨(a.below.cell (p := ⟨b, o, none⟩) hb).trans x0, (a.below.cell (p := ⟨b, o + 1, none⟩) hb).trans x1, a.cell (i := 0) (k := 0) rfl, a.cell (i := 0) (k := 1) rfl, a.cell (i := 0) (k := 2) rfl⟩)
  have B0 := Lib.hid ((Bl.begin w).push (by simp) (.cells #[.int .i64 2, .int .i64 0, .slice (some ⟨b, o, none⟩) 2 c] 24))
  obtain ⟨c0, c1, c2, c3, c4⟩ := HC.out _ B0.out
  clear x0 x1 hc h
  go_enter Tryz.func43, Tryz.ntmps43
  go_wp2_with fail
  refine wp_loop_rounds 3 ?_
  rw [rounds_succ]
  go_wp2_with (go_at_call 73; refine (dg4 _).mono ?_; rintro e w1 ⟨rfl, hb1⟩; have B1 := Lib.hid (B0.out.call hb1); obtain ⟨d0, d1, d2, d3, d4⟩ := HC.out _ B1.out)
  clear c0 c1 c2 c3 c4 hb1
  rw [rounds_succ]
  go_wp2_with (go_at_call 73; refine (dg1 _).mono ?_; rintro e w2 ⟨rfl, hb2⟩; have B2 := Lib.hid (B1.out.call hb2); obtain ⟨e0, e1, e2, e3, e4⟩ := HC.out _ B2.out)
  clear d0 d1 d2 d3 d4 hb2
  rw [rounds_succ]
  go_wp2
  go_ret
  exact ⟨rfl, B2.out.below⟩
set_option maxRecDepth 100000 in
set_option maxHeartbeats 2000000 in
theorem print4 (A : Option Addr) (c : Nat) (w : World) (h : Rd w w.heap.size 1 A 1 (ints [4])) : Calls Tryz.prog 43 #[.agg #[.int .i64 2, .int .i64 0, .slice A 1 c]] w fun e w' => e = .returned (.string ⟨#[91, 52, 93]⟩) ∧ Below w.heap.size w w' := by
  obtain ⟨b, o, rfl, hb, hc⟩ := h.2 (by omega)
  have x0 : w.cell? ⟨b, o, none⟩ = some (.int .i64 4) := hc 0 _ rfl
  have HC : Hid (∀ wy, Bl w wy [.cells #[.int .i64 2, .int .i64 0, .slice (some ⟨b, o, none⟩) 1 c] 24] → wy.cell? ⟨b, o, none⟩ = some (.int .i64 4) ∧ wy.cell? ⟨w.heap.size, 0, none⟩ = some (.int .i64 2) ∧ wy.cell? ⟨w.heap.size, 1, none⟩ = some (.int .i64 0) ∧ wy.cell? ⟨w.heap.size, 2, none⟩ = some (.slice (some ⟨b, o, none⟩) 1 c)) := Lib.hid (fun wy a =>
    ⟨(a.below.cell (p := ⟨b, o, none⟩) hb).trans x0, a.cell (i := 0) (k := 0) rfl, a.cell (i := 0) (k := 1) rfl, a.cell (i := 0) (k := 2) rfl⟩)
  have B0 := Lib.hid ((Bl.begin w).push (by simp) (.cells #[.int .i64 2, .int .i64 0, .slice (some ⟨b, o, none⟩) 1 c] 24))
  obtain ⟨c0, c2, c3, c4⟩ := HC.out _ B0.out
  clear x0 hc h
  go_enter Tryz.func43, Tryz.ntmps43
  go_wp2_with fail
  refine wp_loop_rounds 2 ?_
  rw [rounds_succ]
  go_wp2_with (go_at_call 73; refine (dg4 _).mono ?_; rintro e w1 ⟨rfl, hb1⟩; have B1 := Lib.hid (B0.out.call hb1); obtain ⟨d0, d2, d3, d4⟩ := HC.out _ B1.out)
  clear c0 c2 c3 c4 hb1
  rw [rounds_succ]
  go_wp2
  go_ret
  exact ⟨rfl, B1.out.below⟩
theorem run_rt_kind (k c : Int) (A : Option Addr) (n m : Nat) (w : World) : (Instr.field 24 (.agg #[.int .i64 k, .int .i64 c, .slice A n m]) 0).run Tryz.prog w = .ok (.int .i64 k) w := by kernel_rfl
set_option maxRecDepth 100000 in
set_option maxHeartbeats 4000000 in
theorem awake11 (w : World) : Calls Tryz.prog 21 #[] w fun e w' => e = .returned (.bool true) ∧ Below w.heap.size w w' := by
  have kf := run_rt_kind
  go_enter Tryz.func21, Tryz.ntmps21
  go_wp2_with fail
  refine (ring_any w).mono ?_
  rintro e w1 ⟨hv, rfl, hn, hb⟩
  have P1 := Lib.hid (PB.begin hb hn)
  clear hn hb
  unfold netV netVal
  unfold netCells at P1
  obtain ⟨v0, v1, v2, v3, v4, v5, v6⟩ := P1.out.all
  go_upto_region 2 with fail
  generalize (w1.alloc (.cells #[.int .i64 pr11.proto, .int .i64 pr11.cap, .int .i64 pr11.k, .slice hv.an pr11.nodes.length hv.cn, .slice hv.al pr11.links.length hv.cl, .slice hv.ad pr11.dests.length hv.cd, .slice hv.ac pr11.checks.length hv.cc] 31)) = x1 at *
  generalize w1.heap.size = b1 at *
  clear v0 v1 v2 v3 v4 v5 v6
  obtain ⟨v0, v1, v2, v3, v4, v5, v6⟩ := P1.out.all
  go_wp2_with fail
  refine (ways_any pr11 hv 0 0 2 _ P1.out.net good_r11 (by decide) (by decide) (by decide)).mono ?_
  rintro e w2 ⟨Z, A, c, rfl, hZ, hW, hb2⟩
  have P2 := Lib.hid (P1.out.call hb2)
  rw [ways11] at hZ
  have hZ2 : Z.length = 2 := by have := congrArg List.length hZ; simpa using this
  obtain ⟨⟨q0, A0, c0⟩, ⟨q1, A1, c1⟩, rfl⟩ : ∃ z0 z1, Z = [z0, z1] := by
    match Z, hZ2 with
    | [a, b], _ => exact ⟨a, b, rfl⟩
  simp only [List.map_cons, List.map_nil, List.cons.injEq, and_true] at hZ
  obtain ⟨rfl, rfl⟩ := hZ
  obtain ⟨b, o, rfl, hbo, hc⟩ := hW.row.rd.2 (by simp)
  have y0 : w2.cell? ⟨b, o, none⟩ = some (.slice A0 3 c0) := hc 0 _ rfl
  obtain ⟨b3, o3, rfl, hbo3, hc3⟩ := (hW.each _ (List.mem_cons_self ..)).2.2.2.rd.2 (by simp)
  have y1 : w2.cell? ⟨b3, o3 + 1, none⟩ = some (.int .i64 1) := hc3 1 _ rfl
  simp only [List.length_cons, List.length_nil, Nat.zero_add, Nat.reduceAdd]
  clear hb2 hW hZ2 hbo hc hbo3 hc3 v0 v1 v2 v3 v4 v5 v6
  obtain ⟨v0, v1, v2, v3, v4, v5, v6⟩ := P2.out.all
  go_wp2_with fail
  refine (apart_any pr11 hv _ P2.out.net good_r11).mono ?_
  rintro e w3 ⟨rfl, hb3⟩
  rw [apart11]
  have P3 := Lib.hid (P2.out.call hb3)
  clear hb3 y0 y1 v0 v1 v2 v3 v4 v5 v6
  obtain ⟨v0, v1, v2, v3, v4, v5, v6⟩ := P3.out.all
  go_wp2_with fail
  refine (sbest_any pr11 hv 0 0 2 _ P3.out.net good_r11 (by decide) (by decide) (by decide) org11 (by decide)).mono ?_
  rintro e w4 ⟨A4, c4, rfl, ho4, hb4⟩
  rw [best11a] at ho4 ⊢
  have P4 := Lib.hid (P3.out.call hb4)
  have R4 := Lib.hid (ho4.rt 2 0)
  clear hb4 ho4 v0 v1 v2 v3 v4 v5 v6
  unfold rtV
  go_wp2_with fail
  refine (print21 A4 c4 _ R4.out.1).mono ?_
  rintro e w5 ⟨rfl, hb5⟩
  have P5 := Lib.hid (P4.out.call hb5)
  clear hb5 R4
  obtain ⟨v0, v1, v2, v3, v4, v5, v6⟩ := P5.out.all
  go_wp2_with fail
  refine (sbest_any pr11 hv 2 0 2 _ P5.out.net good_r11 (by decide) (by decide) (by decide) org11 (by decide)).mono ?_
  rintro e w6 ⟨A6, c6, rfl, ho6, hb6⟩
  rw [best11b] at ho6 ⊢
  have P6 := Lib.hid (P5.out.call hb6)
  have R6 := Lib.hid (ho6.rt 2 0)
  clear hb6 ho6 v0 v1 v2 v3 v4 v5 v6
  unfold rtV
  go_wp2_with fail
  refine (print41 A6 c6 _ R6.out.1).mono ?_
  rintro e w7 ⟨rfl, hb7⟩
  have P7 := Lib.hid (P6.out.call hb7)
  clear hb7 R6
  obtain ⟨v0, v1, v2, v3, v4, v5, v6⟩ := P7.out.all
  go_wp2_with fail
  refine (sbest_any pr11 hv 3 0 1 _ P7.out.net good_r11 (by decide) (by decide) (by decide) org11 (by decide)).mono ?_
  rintro e w8 ⟨A8, c8, rfl, ho8, hb8⟩
  rw [best11c] at ho8 ⊢
  have P8 := Lib.hid (P7.out.call hb8)
  clear hb8 ho8 v0 v1 v2 v3 v4 v5 v6
  unfold rtV
  obtain ⟨v0, v1, v2, v3, v4, v5, v6⟩ := P8.out.all
  have hal := along_any pr11 hv 0 [0, 3] (some ⟨w8.heap.size, 0, none⟩) 2 (w8.alloc (.cells #[.int .i64 0, .int .i64 3] 3)) (P8.out.call ((Below.refl _ _).alloc (Nat.le_refl _) (.cells #[.int .i64 0, .int .i64 3] 3))).net good_r11 (Rd.new (m := 2) (s := 1) (by simp) rfl) (by simp) (by unfold maxLen; omega) way11
  have HAL := Lib.hid hal
  clear hal
  go_wp2_with fail
  refine HAL.out.mono ?_
  rintro e w9 ⟨A9, c9, rfl, ho9, hb9⟩
  rw [along11] at ho9 ⊢
  have P9 := Lib.hid ((P8.out.call ((Below.refl _ _).alloc (Nat.le_refl _) (.cells #[.int .i64 0, .int .i64 3] 3))).call hb9)
  have R9 := Lib.hid (ho9.rt 2 0)
  clear hb9 ho9 v0 v1 v2 v3 v4 v5 v6
  unfold rtV
  go_wp2_with fail
  refine (print4 A9 c9 _ R9.out.1).mono ?_
  rintro e w10 ⟨rfl, hb10⟩
  have P10 := Lib.hid (P9.out.call hb10)
  clear hb10 R9
  go_wp2
  go_ret
  exact ⟨rfl, P10.out.below⟩
end Go.Proofs.YtlnnmjomdblciaaGreat

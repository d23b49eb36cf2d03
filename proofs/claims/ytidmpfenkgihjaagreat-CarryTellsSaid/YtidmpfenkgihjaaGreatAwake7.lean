/- The example of backstaylaw07.awake, plainly and walked. -/
import Derived.Test.YtidmpfenkgihjaaGreatCarryV
import Derived.Test.YtidmpfenkgihjaaGreatHeld
import Derived.Test.YtidmpfenkgihjaaGreatNetD
import Derived.Test.YtidmpfenkgihjaaGreatAttrB
namespace Go.Proofs.YtidmpfenkgihjaaGreat
set_option linter.unusedSimpArgs false
set_option linter.unusedVariables false
open Go.RowKit

def pv7 : Net := ⟨1, 0, 0, [⟨⟨#[97]⟩, 7⟩, ⟨⟨#[98]⟩, 8⟩, ⟨⟨#[99]⟩, 9⟩], [⟨0, 1, 3⟩, ⟨0, 2, 1⟩], [⟨⟨#[120]⟩, [2]⟩], []⟩
def pp7 : Net := ⟨2, 2, 0, [⟨⟨#[97]⟩, 7⟩, ⟨⟨#[98]⟩, 8⟩, ⟨⟨#[99]⟩, 9⟩], [⟨0, 1, 3⟩, ⟨0, 2, 1⟩], [⟨⟨#[120]⟩, [2]⟩], []⟩
theorem good_v7 : Good pv7 where
  small := ⟨by decide, by decide, by decide, by decide, by intro d hd; simp [pv7] at hd; subst hd; decide⟩
  names := by decide +kernel
  right := by decide +kernel
theorem good_p7 : Good pp7 where
  small := ⟨by decide, by decide, by decide, by decide, by intro d hd; simp [pp7] at hd; subst hd; decide⟩
  names := by decide +kernel
  right := by decide +kernel
theorem ov_a : overR pv7 0 1 ⟨1, 12, []⟩ = ⟨1, 15, []⟩ := by kernel_rfl
theorem ov_b : overR pv7 0 1 ⟨1, 13, []⟩ = ⟨0, 0, []⟩ := by kernel_rfl
theorem ov_c : overR pp7 0 1 ⟨2, 0, [9]⟩ = ⟨2, 0, [7, 9]⟩ := by kernel_rfl
theorem ov_d : overR pp7 1 2 ⟨2, 0, [9]⟩ = ⟨0, 0, []⟩ := by kernel_rfl
theorem ow_o : ownR pp7 0 2 = ⟨2, 0, []⟩ := by kernel_rfl
theorem ow_v : ownR pv7 0 0 = ⟨0, 0, []⟩ := by kernel_rfl
theorem fi_1 : (placeB 1 pp7.nodes.length && holdsB pp7 1 ⟨2, 0, [7, 9]⟩) = true := by decide +kernel
theorem fi_2 : (placeB 2 pp7.nodes.length && holdsB pp7 2 ⟨2, 0, [7, 9]⟩) = false := by decide +kernel
theorem fi_3 : (placeB 1 pv7.nodes.length && holdsB pv7 1 ⟨2, 0, [7, 9]⟩) = false := by decide +kernel

def h7 (n : Nat) : Hd := ⟨some ⟨n + 1, 0, none⟩, 3, some ⟨n + 1 + 1, 0, none⟩, 2, some ⟨n + 1 + 1 + 1 + 1, 0, none⟩, 1, none, 0, [(some ⟨n + 1 + 1 + 1, 0, none⟩, 1)]⟩
def w7L (n : Nat) : List Obj := [.cells #[.string ⟨#[97]⟩, .int .i64 7, .string ⟨#[98]⟩, .int .i64 8, .string ⟨#[99]⟩, .int .i64 9] 62, .cells #[.int .i64 0, .int .i64 1, .int .i64 3, .int .i64 0, .int .i64 2, .int .i64 1] 65, .cells #[.int .i64 2] 3, .cells #[.string ⟨#[120]⟩, .slice (some ⟨n + 1 + 1 + 1, 0, none⟩) 1 1] 67]
theorem net7 {w wr : World} {q : Net} (hq : q.nodes = pv7.nodes ∧ q.links = pv7.links ∧ q.dests = pv7.dests ∧ q.checks = []) {o : Obj} (a : Bl w wr (o :: w7L w.heap.size)) : NetR wr wr.heap.size q (h7 w.heap.size) := by
  obtain ⟨e1, e2, e3, e4⟩ := hq
  refine ⟨?_, ?_, ?_, ?_, ?_, ?_⟩
  · rw [e1]; exact a.rd (i := 1) (m := 3) (s := 2) rfl rfl
  · rw [e2]; exact a.rd (i := 2) (m := 2) (s := 3) rfl rfl
  · rw [e3]; rfl
  · rw [e3]; exact a.rd (i := 4) (m := 1) (s := 2) rfl rfl
  · intro z hz
    rw [e3] at hz
    simp [pv7, h7] at hz
    subst hz
    exact a.rd (i := 3) (m := 1) (s := 1) rfl rfl
  · rw [e4]; exact Rd.nil _
set_option maxRecDepth 100000 in
set_option maxHeartbeats 2000000 in
theorem pair_v (w : World) : Calls Tryz.prog 27 #[.int .i64 1] w (PairPost pv7 w) := by
  go_enter Tryz.func27, Tryz.ntmps27
  go_wp2
  refine bodyPost_ret (v := .agg #[.int .i64 1, .int .i64 0, .int .i64 0, .slice (some ⟨w.heap.size + 1, 0, none⟩) 3 3, .slice (some ⟨w.heap.size + 1 + 1, 0, none⟩) 2 2, .slice (some ⟨w.heap.size + 1 + 1 + 1 + 1, 0, none⟩) 1 1, .slice none 0 0]) (by simp [results, Tryz.results27, go_sem]) rfl ⟨h7 w.heap.size, rfl, ?_, by go_grown⟩
  exact (net7 (w := w) ⟨rfl, rfl, rfl, rfl⟩ (((((((Bl.begin w).push (by simp) _).push (by simp) _).push (by simp) _).push (by simp) _).push (by simp) _).alloc _))
set_option maxRecDepth 100000 in
set_option maxHeartbeats 2000000 in
theorem pair_p (w : World) : Calls Tryz.prog 27 #[.int .i64 2] w (PairPost pp7 w) := by
  go_enter Tryz.func27, Tryz.ntmps27
  go_wp2
  refine bodyPost_ret (v := .agg #[.int .i64 2, .int .i64 2, .int .i64 0, .slice (some ⟨w.heap.size + 1, 0, none⟩) 3 3, .slice (some ⟨w.heap.size + 1 + 1, 0, none⟩) 2 2, .slice (some ⟨w.heap.size + 1 + 1 + 1 + 1, 0, none⟩) 1 1, .slice none 0 0]) (by simp [results, Tryz.results27, go_sem]) rfl ⟨h7 w.heap.size, rfl, ?_, by go_grown⟩
  exact (net7 (w := w) ⟨rfl, rfl, rfl, rfl⟩ (((((((Bl.begin w).push (by simp) _).push (by simp) _).push (by simp) _).push (by simp) _).push (by simp) _).alloc _))

/-! ### Texts of numbers -/
set_option maxRecDepth 100000 in
theorem digits1 (w : World) : Calls Tryz.prog 48 #[.int .i64 1] w fun e w' => e = .returned (.string ⟨#[49]⟩) ∧ Below w.heap.size w w' := by
  have kc := run_convert_bytes_back (P := Tryz.prog) (w.alloc (.cells #[.int .u8 49] 5)) 105 9 5 ⟨w.heap.size, 0, none⟩ 1 [49] Tryz.underlying105 Tryz.underlying5 Tryz.underlying9 (by intro j hj; have : j = 0 := (by simpa using hj); subst this; rw [Addr.add_lit]; exact World.cell?_alloc_new _ _ _ _)
  have hl : ([49] : List UInt8).length = 1 := rfl
  rw [hl] at kc
  go_enter Tryz.func48, Tryz.ntmps48
  go_wp2
  go_ret
  exact ⟨rfl, by go_grown⟩
set_option maxRecDepth 100000 in
theorem digits7 (w : World) : Calls Tryz.prog 48 #[.int .i64 7] w fun e w' => e = .returned (.string ⟨#[55]⟩) ∧ Below w.heap.size w w' := by
  have kc := run_convert_bytes_back (P := Tryz.prog) (w.alloc (.cells #[.int .u8 55] 5)) 105 9 5 ⟨w.heap.size, 0, none⟩ 1 [55] Tryz.underlying105 Tryz.underlying5 Tryz.underlying9 (by intro j hj; have : j = 0 := (by simpa using hj); subst this; rw [Addr.add_lit]; exact World.cell?_alloc_new _ _ _ _)
  have hl : ([55] : List UInt8).length = 1 := rfl
  rw [hl] at kc
  go_enter Tryz.func48, Tryz.ntmps48
  go_wp2
  go_ret
  exact ⟨rfl, by go_grown⟩
set_option maxRecDepth 100000 in
theorem digits9 (w : World) : Calls Tryz.prog 48 #[.int .i64 9] w fun e w' => e = .returned (.string ⟨#[57]⟩) ∧ Below w.heap.size w w' := by
  have kc := run_convert_bytes_back (P := Tryz.prog) (w.alloc (.cells #[.int .u8 57] 5)) 105 9 5 ⟨w.heap.size, 0, none⟩ 1 [57] Tryz.underlying105 Tryz.underlying5 Tryz.underlying9 (by intro j hj; have : j = 0 := (by simpa using hj); subst this; rw [Addr.add_lit]; exact World.cell?_alloc_new _ _ _ _)
  have hl : ([57] : List UInt8).length = 1 := rfl
  rw [hl] at kc
  go_enter Tryz.func48, Tryz.ntmps48
  go_wp2
  go_ret
  exact ⟨rfl, by go_grown⟩
set_option maxRecDepth 100000 in
theorem digits15 (w : World) : Calls Tryz.prog 48 #[.int .i64 15] w fun e w' => e = .returned (.string ⟨#[49, 53]⟩) ∧ Below w.heap.size w w' := by
  have kc := run_convert_bytes_back (P := Tryz.prog) (w.alloc (.cells #[.int .u8 53] 5)) 105 9 5 ⟨w.heap.size, 0, none⟩ 1 [53] Tryz.underlying105 Tryz.underlying5 Tryz.underlying9 (by intro j hj; have : j = 0 := (by simpa using hj); subst this; rw [Addr.add_lit]; exact World.cell?_alloc_new _ _ _ _)
  have hl : ([53] : List UInt8).length = 1 := rfl
  rw [hl] at kc
  go_enter Tryz.func48, Tryz.ntmps48
  go_wp2_with (go_at_call 48; refine (digits1 _).mono ?_; rintro e w1 ⟨rfl, hb1⟩)
  go_ret
  exact ⟨rfl, ((Below.refl _ _).alloc (Nat.le_refl _) _).trans (hb1.mono (by simp))⟩
set_option maxRecDepth 100000 in
theorem print15 (A : Option Addr) (c : Nat) (w : World) : Calls Tryz.prog 28 #[.agg #[.int .i64 1, .int .i64 15, .slice A 0 c]] w fun e w' => e = .returned (.string ⟨#[49, 53]⟩) ∧ Below w.heap.size w w' := by
  go_enter Tryz.func28, Tryz.ntmps28
  go_wp2_with (go_at_call 48; refine (digits15 _).mono ?_; rintro e w1 ⟨rfl, hb1⟩)
  go_ret
  exact ⟨rfl, ((Below.refl _ _).alloc (Nat.le_refl _) _).trans (hb1.mono (by simp))⟩
set_option maxRecDepth 100000 in
set_option maxHeartbeats 2000000 in
theorem print79 (A : Option Addr) (c : Nat) (w : World) (h : Rd w w.heap.size 1 A 2 (ints [7, 9])) : Calls Tryz.prog 28 #[.agg #[.int .i64 2, .int .i64 0, .slice A 2 c]] w fun e w' => e = .returned (.string ⟨#[91, 55, 32, 57, 93]⟩) ∧ Below w.heap.size w w' := by
  obtain ⟨b, o, rfl, hb, hc⟩ := h.2 (by omega)
  have x0 : w.cell? ⟨b, o, none⟩ = some (.int .i64 7) := hc 0 _ rfl
  have x1 : w.cell? ⟨b, o + 1, none⟩ = some (.int .i64 9) := hc 1 _ rfl
  have HC : Hid (∀ wy, Bl w wy [.cells #[.int .i64 2, .int .i64 0, .slice (some ⟨b, o, none⟩) 2 c] 24] → wy.cell? ⟨b, o, none⟩ = some (.int .i64 7) ∧ wy.cell? ⟨b, o + 1, none⟩ = some (.int .i64 9) ∧ wy.cell? ⟨w.heap.size, 0, none⟩ = some (.int .i64 2) ∧ wy.cell? ⟨w.heap.size, 1, none⟩ = some (.int .i64 0) ∧ wy.cell? ⟨w.heap.size, 2, none⟩ = some (.slice (some ⟨b, o, none⟩) 2 c)) := Lib.hid (fun wy a =>
    ⟨(a.below.cell (p := ⟨b, o, none⟩) hb).trans x0, (a.below.cell (p := ⟨b, o + 1, none⟩) hb).trans x1, a.cell (i := 0) (k := 0) rfl, a.cell (i := 0) (k := 1) rfl, a.cell (i := 0) (k := 2) rfl⟩)
  have B0 := Lib.hid ((Bl.begin w).push (by simp) (.cells #[.int .i64 2, .int .i64 0, .slice (some ⟨b, o, none⟩) 2 c] 24))
  obtain ⟨c0, c1, c2, c3, c4⟩ := HC.out _ B0.out
  clear x0 x1 hc h
  go_enter Tryz.func28, Tryz.ntmps28
  go_wp2_with fail
  refine wp_loop_rounds 3 ?_
  rw [rounds_succ]
  go_wp2_with (go_at_call 48; refine (digits7 _).mono ?_; rintro e w1 ⟨rfl, hb1⟩; have B1 := Lib.hid (B0.out.call hb1); obtain ⟨d0, d1, d2, d3, d4⟩ := HC.out _ B1.out)
  clear c0 c1 c2 c3 c4 hb1
  rw [rounds_succ]
  go_wp2_with (go_at_call 48; refine (digits9 _).mono ?_; rintro e w2 ⟨rfl, hb2⟩; have B2 := Lib.hid (B1.out.call hb2); obtain ⟨e0, e1, e2, e3, e4⟩ := HC.out _ B2.out)
  clear d0 d1 d2 d3 d4 hb2
  rw [rounds_succ]
  go_wp2
  go_ret
  exact ⟨rfl, B2.out.below⟩

theorem run_rt_kind (k c : Int) (A : Option Addr) (n m : Nat) (w : World) : (Instr.field 24 (.agg #[.int .i64 k, .int .i64 c, .slice A n m]) 0).run Tryz.prog w = .ok (.int .i64 k) w := by kernel_rfl
/-! ### The example -/
/-- Two networks, and routes, each in a box. -/
structure W7 (w0 wr : World) (bv bp : Nat) (hv hp : Hd) (L : List (Nat × RtZ)) : Prop where
  v : PB w0 wr bv pv7 hv
  p : PB w0 wr bp pp7 hp
  each : ∀ z ∈ L, Box wr z.1 z.2.1 z.2.2.1 z.2.2.2
section
variable {w0 wr w' : World} {bv bp : Nat} {hv hp : Hd} {L : List (Nat × RtZ)}
theorem W7.call (a : W7 w0 wr bv bp hv hp L) (hb : Below wr.heap.size wr w') : W7 w0 w' bv bp hv hp L := ⟨a.v.call hb, a.p.call hb, fun z hz => (a.each z hz).call hb⟩
theorem W7.push (a : W7 w0 wr bv bp hv hp L) {r : Rt} {A : Option Addr} {c : Nat} (h : RtR wr wr.heap.size r A c) : W7 w0 (wr.alloc (.cells #[.int .i64 r.kind, .int .i64 r.cost, .slice A r.path.length c] 24)) bv bp hv hp (L ++ [(wr.heap.size, (r, (A, c)))]) := by
  have hb : Below wr.heap.size wr (wr.alloc (.cells #[.int .i64 r.kind, .int .i64 r.cost, .slice A r.path.length c] 24)) := (Below.refl _ _).alloc (Nat.le_refl _) _
  refine ⟨a.v.call hb, a.p.call hb, fun z hz => ?_⟩
  rcases List.mem_append.1 hz with hz | hz
  · exact (a.each z hz).call hb
  · simp at hz; subst hz; exact Box.new h
end
set_option maxRecDepth 100000 in
set_option maxHeartbeats 4000000 in
theorem awake7 (w : World) : Calls Tryz.prog 5 #[] w fun e w' => e = .returned (.bool true) ∧ Below w.heap.size w w' := by
  have kf := run_rt_kind
  go_enter Tryz.func5, Tryz.ntmps5
  go_wp2_with fail
  refine (pair_v w).mono ?_
  rintro e w1 ⟨hv, rfl, hn, hb⟩
  have PV := Lib.hid (PB.begin hb hn)
  clear hn hb
  unfold netV netVal
  go_wp2_with fail
  refine (pair_p _).mono ?_
  rintro e w2 ⟨hp, rfl, hn, hb⟩
  have PP := Lib.hid (PB.begin (since_trans PV.out.below hb) hn)
  have PV2 := Lib.hid ((PV.out.call hb).call ((Below.refl _ _).alloc (Nat.le_refl _) (.cells (netCells pp7 hp) 31)))
  have W0 : Hid (W7 w (w2.alloc (.cells #[.int .i64 pp7.proto, .int .i64 pp7.cap, .int .i64 pp7.k, .slice hp.an pp7.nodes.length hp.cn, .slice hp.al pp7.links.length hp.cl, .slice hp.ad pp7.dests.length hp.cd, .slice hp.ac pp7.checks.length hp.cc] 31)) w1.heap.size w2.heap.size hv hp []) := Lib.hid ⟨PV2.out, PP.out, by intro z hz; cases hz⟩
  clear PV PV2 PP hn hb
  unfold netV netVal
  obtain ⟨v0, v1, v2, v3, v4, v5, v6⟩ := W0.out.v.all
  go_wp2_with fail
  refine (overX_any pv7 hv 0 1 ⟨1, 12, []⟩ none 0 _ W0.out.v.net good_v7 rtR_nil).mono ?_
  rintro e w3 ⟨A3, c3, rfl, hr, hb⟩
  rw [ov_a] at hr ⊢
  have W3 : Hid (W7 w (w3.alloc (.cells #[.int .i64 1, .int .i64 15, .slice A3 0 c3] 24)) w1.heap.size w2.heap.size hv hp [(w3.heap.size, (⟨1, 15, []⟩, (A3, c3)))]) := Lib.hid ((W0.out.call hb).push hr)
  clear hr hb v0 v1 v2 v3 v4 v5 v6
  unfold rtV
  obtain ⟨v0, v1, v2, v3, v4, v5, v6⟩ := W3.out.v.all
  go_wp2_with fail
  refine (overX_any pv7 hv 0 1 ⟨1, 13, []⟩ none 0 _ W3.out.v.net good_v7 rtR_nil).mono ?_
  rintro e w4 ⟨A4, c4, rfl, hr, hb⟩
  rw [ov_b] at hr ⊢
  have W4 : Hid (W7 w (w4.alloc (.cells #[.int .i64 0, .int .i64 0, .slice A4 0 c4] 24)) w1.heap.size w2.heap.size hv hp [(w3.heap.size, (⟨1, 15, []⟩, (A3, c3))), (w4.heap.size, (⟨0, 0, []⟩, (A4, c4)))]) := Lib.hid ((W3.out.call hb).push hr)
  clear hr hb v0 v1 v2 v3 v4 v5 v6
  unfold rtV
  obtain ⟨v0, v1, v2, v3, v4, v5, v6⟩ := W4.out.p.all
  go_wp2_with fail
  refine (overX_any pp7 hp 0 1 ⟨2, 0, [9]⟩ (some ⟨w4.heap.size + 1, 0, none⟩) 1 _ (W4.out.call ((Below.refl _ _).alloc (Nat.le_refl _) (.cells #[.int .i64 9] 3))).p.net good_p7 ⟨Rd.new (m := 1) (s := 1) (by simp) rfl, Nat.le_refl 1, by simp [maxLen]⟩).mono ?_
  rintro e w5 ⟨A5, c5, rfl, hr, hb⟩
  rw [ov_c] at hr ⊢
  have W5 : Hid (W7 w (w5.alloc (.cells #[.int .i64 2, .int .i64 0, .slice A5 2 c5] 24)) w1.heap.size w2.heap.size hv hp [(w3.heap.size, (⟨1, 15, []⟩, (A3, c3))), (w4.heap.size, (⟨0, 0, []⟩, (A4, c4))), (w5.heap.size, (⟨2, 0, [7, 9]⟩, (A5, c5)))]) := Lib.hid ((W4.out.call (((Below.refl _ _).alloc (Nat.le_refl _) (.cells #[.int .i64 9] 3)).trans (hb.mono (by simp)))).push hr)
  clear hr hb v0 v1 v2 v3 v4 v5 v6
  unfold rtV
  obtain ⟨v0, v1, v2, v3, v4, v5, v6⟩ := W5.out.p.all
  go_wp2_with fail
  refine (overX_any pp7 hp 1 2 ⟨2, 0, [9]⟩ (some ⟨w5.heap.size + 1, 0, none⟩) 1 _ (W5.out.call ((Below.refl _ _).alloc (Nat.le_refl _) (.cells #[.int .i64 9] 3))).p.net good_p7 ⟨Rd.new (m := 1) (s := 1) (by simp) rfl, Nat.le_refl 1, by simp [maxLen]⟩).mono ?_
  rintro e w6 ⟨A6, c6, rfl, hr, hb⟩
  rw [ov_d] at hr ⊢
  have W6 : Hid (W7 w (w6.alloc (.cells #[.int .i64 0, .int .i64 0, .slice A6 0 c6] 24)) w1.heap.size w2.heap.size hv hp [(w3.heap.size, (⟨1, 15, []⟩, (A3, c3))), (w4.heap.size, (⟨0, 0, []⟩, (A4, c4))), (w5.heap.size, (⟨2, 0, [7, 9]⟩, (A5, c5))), (w6.heap.size, (⟨0, 0, []⟩, (A6, c6)))]) := Lib.hid ((W5.out.call (((Below.refl _ _).alloc (Nat.le_refl _) (.cells #[.int .i64 9] 3)).trans (hb.mono (by simp)))).push hr)
  clear hr hb v0 v1 v2 v3 v4 v5 v6
  unfold rtV
  obtain ⟨v0, v1, v2, v3, v4, v5, v6⟩ := W6.out.p.all
  go_wp2_with fail
  refine (ownX_any pp7 hp 0 2 _ W6.out.p.net good_p7).mono ?_
  rintro e w7 ⟨rfl, hb⟩
  rw [ow_o]
  have W7_ : Hid (W7 w (w7.alloc (.cells #[.int .i64 2, .int .i64 0, .slice none 0 0] 24)) w1.heap.size w2.heap.size hv hp [(w3.heap.size, (⟨1, 15, []⟩, (A3, c3))), (w4.heap.size, (⟨0, 0, []⟩, (A4, c4))), (w5.heap.size, (⟨2, 0, [7, 9]⟩, (A5, c5))), (w6.heap.size, (⟨0, 0, []⟩, (A6, c6))), (w7.heap.size, (⟨2, 0, []⟩, (none, 0)))]) := Lib.hid ((W6.out.call hb).push (r := ⟨2, 0, []⟩) rtR_nil)
  clear hb v0 v1 v2 v3 v4 v5 v6
  unfold rtV
  obtain ⟨a0, a1, a2⟩ := (W7_.out.each _ (List.mem_cons_self ..)).at_
  obtain ⟨b0, b1, b2⟩ := (W7_.out.each (w4.heap.size, (⟨0, 0, []⟩, (A4, c4))) (by simp)).at_
  obtain ⟨g0, g1, g2⟩ := (W7_.out.each (w5.heap.size, (⟨2, 0, [7, 9]⟩, (A5, c5))) (by simp)).at_
  obtain ⟨d0, d1, d2⟩ := (W7_.out.each (w6.heap.size, (⟨0, 0, []⟩, (A6, c6))) (by simp)).at_
  obtain ⟨o0, o1, o2⟩ := (W7_.out.each (w7.heap.size, (⟨2, 0, []⟩, (none, 0))) (by simp)).at_
  obtain ⟨v0, v1, v2, v3, v4, v5, v6⟩ := W7_.out.v.all
  obtain ⟨p0, p1, p2, p3, p4, p5, p6⟩ := W7_.out.p.all
  simp only [List.length_nil, List.length_cons, Nat.zero_add, Nat.reduceAdd] at a2 b0 b1 b2 g2 d0 d1 d2 o2
  go_wp2_with fail
  refine (print15 A3 c3 _).mono ?_
  rintro e w8 ⟨rfl, hb⟩
  have W8 := Lib.hid (W7_.out.call hb)
  clear hb a0 a1 a2 b0 b1 b2 g0 g1 g2 d0 d1 d2 o0 o1 o2 v0 v1 v2 v3 v4 v5 v6 p0 p1 p2 p3 p4 p5 p6
  obtain ⟨a0, a1, a2⟩ := (W8.out.each _ (List.mem_cons_self ..)).at_
  obtain ⟨b0, b1, b2⟩ := (W8.out.each (w4.heap.size, (⟨0, 0, []⟩, (A4, c4))) (by simp)).at_
  obtain ⟨g0, g1, g2⟩ := (W8.out.each (w5.heap.size, (⟨2, 0, [7, 9]⟩, (A5, c5))) (by simp)).at_
  obtain ⟨d0, d1, d2⟩ := (W8.out.each (w6.heap.size, (⟨0, 0, []⟩, (A6, c6))) (by simp)).at_
  obtain ⟨o0, o1, o2⟩ := (W8.out.each (w7.heap.size, (⟨2, 0, []⟩, (none, 0))) (by simp)).at_
  obtain ⟨v0, v1, v2, v3, v4, v5, v6⟩ := W8.out.v.all
  obtain ⟨p0, p1, p2, p3, p4, p5, p6⟩ := W8.out.p.all
  simp only [List.length_nil, List.length_cons, Nat.zero_add, Nat.reduceAdd] at a2 b0 b1 b2 g2 d0 d1 d2 o2
  go_wp2_with fail
  refine (print79 A5 c5 _ (W8.out.each (w5.heap.size, (⟨2, 0, [7, 9]⟩, (A5, c5))) (by simp)).rt.1).mono ?_
  rintro e w9 ⟨rfl, hb⟩
  have W9 := Lib.hid (W8.out.call hb)
  clear hb a0 a1 a2 b0 b1 b2 g0 g1 g2 d0 d1 d2 o0 o1 o2 v0 v1 v2 v3 v4 v5 v6 p0 p1 p2 p3 p4 p5 p6
  obtain ⟨a0, a1, a2⟩ := (W9.out.each _ (List.mem_cons_self ..)).at_
  obtain ⟨b0, b1, b2⟩ := (W9.out.each (w4.heap.size, (⟨0, 0, []⟩, (A4, c4))) (by simp)).at_
  obtain ⟨g0, g1, g2⟩ := (W9.out.each (w5.heap.size, (⟨2, 0, [7, 9]⟩, (A5, c5))) (by simp)).at_
  obtain ⟨d0, d1, d2⟩ := (W9.out.each (w6.heap.size, (⟨0, 0, []⟩, (A6, c6))) (by simp)).at_
  obtain ⟨o0, o1, o2⟩ := (W9.out.each (w7.heap.size, (⟨2, 0, []⟩, (none, 0))) (by simp)).at_
  obtain ⟨v0, v1, v2, v3, v4, v5, v6⟩ := W9.out.v.all
  obtain ⟨p0, p1, p2, p3, p4, p5, p6⟩ := W9.out.p.all
  simp only [List.length_nil, List.length_cons, Nat.zero_add, Nat.reduceAdd] at a2 b0 b1 b2 g2 d0 d1 d2 o2
  go_wp2_with fail
  refine (ownX_any pv7 hv 0 0 _ W9.out.v.net good_v7).mono ?_
  rintro e w10 ⟨rfl, hb⟩
  rw [ow_v]
  unfold rtV
  have W10 := Lib.hid (W9.out.call hb)
  clear hb a0 a1 a2 b0 b1 b2 g0 g1 g2 d0 d1 d2 o0 o1 o2 v0 v1 v2 v3 v4 v5 v6 p0 p1 p2 p3 p4 p5 p6
  obtain ⟨a0, a1, a2⟩ := (W10.out.each _ (List.mem_cons_self ..)).at_
  obtain ⟨b0, b1, b2⟩ := (W10.out.each (w4.heap.size, (⟨0, 0, []⟩, (A4, c4))) (by simp)).at_
  obtain ⟨g0, g1, g2⟩ := (W10.out.each (w5.heap.size, (⟨2, 0, [7, 9]⟩, (A5, c5))) (by simp)).at_
  obtain ⟨d0, d1, d2⟩ := (W10.out.each (w6.heap.size, (⟨0, 0, []⟩, (A6, c6))) (by simp)).at_
  obtain ⟨o0, o1, o2⟩ := (W10.out.each (w7.heap.size, (⟨2, 0, []⟩, (none, 0))) (by simp)).at_
  obtain ⟨v0, v1, v2, v3, v4, v5, v6⟩ := W10.out.v.all
  obtain ⟨p0, p1, p2, p3, p4, p5, p6⟩ := W10.out.p.all
  simp only [List.length_nil, List.length_cons, Nat.zero_add, Nat.reduceAdd] at a2 b0 b1 b2 g2 d0 d1 d2 o2
  go_wp2_with fail
  refine (fits_any pp7 hp 1 ⟨2, 0, [7, 9]⟩ A5 c5 _ W10.out.p.net good_p7 (W10.out.each (w5.heap.size, (⟨2, 0, [7, 9]⟩, (A5, c5))) (by simp)).rt).mono ?_
  rintro e w11 ⟨rfl, hb⟩
  rw [fi_1]
  have W11 := Lib.hid (W10.out.call hb)
  clear hb a0 a1 a2 b0 b1 b2 g0 g1 g2 d0 d1 d2 o0 o1 o2 v0 v1 v2 v3 v4 v5 v6 p0 p1 p2 p3 p4 p5 p6
  obtain ⟨a0, a1, a2⟩ := (W11.out.each _ (List.mem_cons_self ..)).at_
  obtain ⟨b0, b1, b2⟩ := (W11.out.each (w4.heap.size, (⟨0, 0, []⟩, (A4, c4))) (by simp)).at_
  obtain ⟨g0, g1, g2⟩ := (W11.out.each (w5.heap.size, (⟨2, 0, [7, 9]⟩, (A5, c5))) (by simp)).at_
  obtain ⟨d0, d1, d2⟩ := (W11.out.each (w6.heap.size, (⟨0, 0, []⟩, (A6, c6))) (by simp)).at_
  obtain ⟨o0, o1, o2⟩ := (W11.out.each (w7.heap.size, (⟨2, 0, []⟩, (none, 0))) (by simp)).at_
  obtain ⟨v0, v1, v2, v3, v4, v5, v6⟩ := W11.out.v.all
  obtain ⟨p0, p1, p2, p3, p4, p5, p6⟩ := W11.out.p.all
  simp only [List.length_nil, List.length_cons, Nat.zero_add, Nat.reduceAdd] at a2 b0 b1 b2 g2 d0 d1 d2 o2
  go_wp2_with fail
  refine (fits_any pp7 hp 2 ⟨2, 0, [7, 9]⟩ A5 c5 _ W11.out.p.net good_p7 (W11.out.each (w5.heap.size, (⟨2, 0, [7, 9]⟩, (A5, c5))) (by simp)).rt).mono ?_
  rintro e w12 ⟨rfl, hb⟩
  rw [fi_2]
  have W12 := Lib.hid (W11.out.call hb)
  clear hb a0 a1 a2 b0 b1 b2 g0 g1 g2 d0 d1 d2 o0 o1 o2 v0 v1 v2 v3 v4 v5 v6 p0 p1 p2 p3 p4 p5 p6
  obtain ⟨a0, a1, a2⟩ := (W12.out.each _ (List.mem_cons_self ..)).at_
  obtain ⟨b0, b1, b2⟩ := (W12.out.each (w4.heap.size, (⟨0, 0, []⟩, (A4, c4))) (by simp)).at_
  obtain ⟨g0, g1, g2⟩ := (W12.out.each (w5.heap.size, (⟨2, 0, [7, 9]⟩, (A5, c5))) (by simp)).at_
  obtain ⟨d0, d1, d2⟩ := (W12.out.each (w6.heap.size, (⟨0, 0, []⟩, (A6, c6))) (by simp)).at_
  obtain ⟨o0, o1, o2⟩ := (W12.out.each (w7.heap.size, (⟨2, 0, []⟩, (none, 0))) (by simp)).at_
  obtain ⟨v0, v1, v2, v3, v4, v5, v6⟩ := W12.out.v.all
  obtain ⟨p0, p1, p2, p3, p4, p5, p6⟩ := W12.out.p.all
  simp only [List.length_nil, List.length_cons, Nat.zero_add, Nat.reduceAdd] at a2 b0 b1 b2 g2 d0 d1 d2 o2
  go_wp2_with fail
  refine (fits_any pv7 hv 1 ⟨2, 0, [7, 9]⟩ A5 c5 _ W12.out.v.net good_v7 (W12.out.each (w5.heap.size, (⟨2, 0, [7, 9]⟩, (A5, c5))) (by simp)).rt).mono ?_
  rintro e w13 ⟨rfl, hb⟩
  rw [fi_3]
  have W13 := Lib.hid (W12.out.call hb)
  clear hb a0 a1 a2 b0 b1 b2 g0 g1 g2 d0 d1 d2 o0 o1 o2 v0 v1 v2 v3 v4 v5 v6 p0 p1 p2 p3 p4 p5 p6
  go_wp2
  go_ret
  exact ⟨rfl, W13.out.v.below⟩
end Go.Proofs.YtidmpfenkgihjaaGreat

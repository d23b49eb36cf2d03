/- slices.Contains and slices.Index at []int. slices.Grow of nil, and slices.Concat of two lists of integers. -/
import Derived.Test.YtakolnmoieiicaaGreatBase
import Derived.Handy
import Derived.Lib.AppendZeros
namespace Go.Proofs.YtakolnmoieiicaaGreat
set_option linter.unusedSimpArgs false
set_option linter.unusedVariables false
open Go.RowKit

def IndexIPost (l : List Int) (s : Int) (w : World) (e : Ending) (w' : World) : Prop := ∃ r : Int, e = .returned (.int .i64 r) ∧ (decide (0 ≤ r) = decide (s ∈ l)) ∧ w = w'
theorem indexI_any (l : List Int) (s : Int) (A : Option Addr) (c : Nat) (B : Nat) (w : World) (h : Rd w B 1 A l.length (ints l)) (hl : l.length ≤ 1000000) :
    Calls Tryz.prog 93 #[.slice A l.length c, .int .i64 s] w (IndexIPost l s w) := by
  go_enter Tryz.func93, Tryz.ntmps93
  go_wp2_with fail
  go_loop [8] (fun i => ∃ k : Nat, k ≤ l.length ∧ i = .int .i64 k ∧ s ∉ l.take k) (fun i => l.length - (intOf i).toNat)
  case atStart => exact ⟨0, Nat.zero_le _, rfl, by simp⟩
  case round =>
    obtain ⟨k, hk, rfl, hall⟩ := hrel
    have HA := Lib.hid hall
    clear hall
    by_cases hlt : k < l.length
    · obtain ⟨x, hx⟩ : ∃ x, l[k]? = some x := ⟨_, List.getElem?_eq_getElem hlt⟩
      obtain ⟨b, o, rfl, hb, hc⟩ := h.one (i := k) (x := .int .i64 x) (by simp [ints, hx])
      have HX := Lib.hid hx
      clear hx h
      have hts : l.take (k + 1) = l.take k ++ [x] := by
        rw [List.take_add_one, HX.out]; rfl
      have HT := Lib.hid hts
      clear hts
      by_cases he : (s == x) = true
      · have hfin : IndexIPost l s w (.returned (.int .i64 k)) w := by
          refine ⟨k, rfl, ?_, rfl⟩
          have h1 : decide ((0 : Int) ≤ (k : Int)) = true := by simp
          rw [h1]
          symm
          rw [decide_eq_true_eq]
          have : s = x := by simpa using he
          rw [this]; exact List.mem_of_getElem? HX.out
        have HF := Lib.hid hfin
        clear hfin
        go_wp2
        go_ret
        exact HF.out
      · have he : (s == x) = false := by simpa using he
        go_wp2
        go_round
        case rel => exact ⟨k + 1, by omega, by go_num, by rw [HT.out]; intro h; rcases List.mem_append.1 h with h | h; exact HA.out h; simp at h; simp [h] at he⟩
        case measure => simp [intOf]; omega
    · have hfin : IndexIPost l s w (.returned (.int .i64 (-1))) w := by
        refine ⟨-1, rfl, ?_, rfl⟩
        have := HA.out
        rw [List.take_of_length_le (by omega)] at this
        simp [this]
      have HF := Lib.hid hfin
      clear hfin h
      go_wp2
      go_ret
      exact HF.out
theorem containsI_any (l : List Int) (s : Int) (A : Option Addr) (c : Nat) (B : Nat) (w : World) (h : Rd w B 1 A l.length (ints l)) (hl : l.length ≤ 1000000) :
    Calls Tryz.prog 70 #[.slice A l.length c, .int .i64 s] w fun e w' => e = .returned (.bool (decide (s ∈ l))) ∧ w = w' := by
  go_enter Tryz.func70, Tryz.ntmps70
  go_wp2_with (go_at_call 93; refine (indexI_any l s A c B _ h hl).mono ?_; rintro e w' ⟨r, rfl, hr, rfl⟩)
  go_ret
  exact ⟨ret_bool (by rw [← hr]), rfl⟩

def GrowPost (w : World) (e : Ending) (w' : World) : Prop := ∃ A c, e = .returned (.slice A 0 c) ∧ Own w' w.heap.size 3 1 A 0 c [] ∧ Below w.heap.size w w'
theorem Tryz.under_int : Tryz.prog.underlying 3 = some (.int .i64) := by kernel_rfl
set_option maxRecDepth 100000 in
theorem grow_any (n : Nat) (hn : n ≤ 1000000) (w : World) : Calls Tryz.prog 171 #[.slice none 0 0, .int .i64 n] w (GrowPost w) := by
  obtain ⟨i0, hi0, hzz0, hzs0, hzb0⟩ := info_parts Tryz.info_int
  by_cases h0 : n = 0
  · subst h0
    go_enter Tryz.func171, Tryz.ntmps171
    go_wp2
    go_ret
    exact ⟨none, 0, rfl, Own.nil _ _ _ _, Below.refl _ _⟩
  · have hn0 : ¬ ((n : Int) < 0) := by omega
    have hn1 : (0 : Int) < n := by omega
    have hge := grownCap_ge w n 0 3
    have hle := grownCap_le_maxLen w n 0 3 (by unfold maxLen; omega)
    have hr := Lib.run_append_nil_zeros (P := Tryz.prog) (ty := 22) w 22 3 3 i0 (.int .i64 0) .i64 .i64 Tryz.underlying22 Tryz.under_int hi0 hzz0 n (by omega) (by omega) (by omega) (by rw [hzb0]; omega)
    generalize hg : grownCap w n 0 3 = c at *
    have HG : Hid (GrowPost w (.returned (.slice (some ⟨w.heap.size, 0, none⟩) 0 c)) (w.drew.alloc (.cells (Builtin.zeroCells (Value.int .i64 0).cells n ++ Builtin.zeroCells (Value.int .i64 0).cells (c - n)) 3))) := Lib.hid (by
      refine ⟨_, _, rfl, ⟨by simp, Nat.zero_le _, hle, by simp, by simp [blk], fun _ => ⟨w.heap.size, 0, _, rfl, heap_alloc_new w.drew _, ?_, ?_⟩⟩, ?_⟩
      · simp [Builtin.zeroCells, Value.cells]; omega
      · intro j u hu; simp at hu
      · exact (Below.refl _ _).drew.alloc (Nat.le_refl _) _)
    have HR := Lib.hid hr
    clear hg hge hle h0 hr hi0 hzz0 hzs0 hzb0
    go_enter Tryz.func171, Tryz.ntmps171
    go_wp2_with (at_builtin; refine Lib.wpList_append_run _ rfl _ _ 22 3 rfl (.slice none 0 0) (.int .i64 n) rfl rfl _ _ HR.out ?_)
    go_ret
    exact HG.out

theorem grow_int {n : Nat} {k : Int} (hk : k = n) (hn : n ≤ 1000000) (w : World) : Calls Tryz.prog 171 #[.slice none 0 0, .int .i64 k] w (GrowPost w) := by subst hk; exact grow_any n hn w
/-- Two lists in one, in memory of the call's own. -/
def ConcatPost (l : List Int) (w : World) (e : Ending) (w' : World) : Prop := ∃ A c, e = .returned (.slice A l.length c) ∧ Own w' w.heap.size 3 1 A l.length c (ints l) ∧ Below w.heap.size w w'
set_option maxRecDepth 100000 in
set_option maxHeartbeats 4000000 in
theorem concat_any (l m : List Int) (A A' : Option Addr) (c c' c0 b : Nat) (w : World) (hb : b < w.heap.size) (h0 : w.cell? ⟨b, 0, none⟩ = some (.slice A l.length c)) (h1 : w.cell? ⟨b, 1, none⟩ = some (.slice A' m.length c'))
    (hl : Rd w w.heap.size 1 A l.length (ints l)) (hm : Rd w w.heap.size 1 A' m.length (ints m)) (h3 : l.length ≤ 1000) (h4 : m.length ≤ 1000) :
    Calls Tryz.prog 170 #[.slice (some ⟨b, 0, none⟩) 2 c0] w (ConcatPost (l ++ m) w) := by
  have HL := Lib.hid hl
  have HM := Lib.hid hm
  clear hl hm
  go_enter Tryz.func170, Tryz.ntmps170
  go_wp2_with fail
  refine wp_loop_rounds 3 ?_
  repeat any_goals (rw [rounds_succ]; go_wp2_with fail)
  have hk : (l.length : Int) + (m.length : Int) = ((l.length + m.length : Nat) : Int) := by omega
  refine (grow_int (n := l.length + m.length) hk (by omega) _).mono ?_
  rintro e w1 ⟨A1, c1, rfl, ho, hb1⟩
  obtain ⟨i0, hi0, hzz0, hzs0, hzb0⟩ := info_parts Tryz.info_int
  have k0 : w1.cell? ⟨b, 0, none⟩ = some (.slice A l.length c) := (hb1.cell (p := ⟨b, 0, none⟩) hb).trans h0
  have k1 : w1.cell? ⟨b, 1, none⟩ = some (.slice A' m.length c') := (hb1.cell (p := ⟨b, 1, none⟩) hb).trans h1
  have hsz := hb1.size
  clear h0 h1 hk
  go_wp2_with fail
  refine wp_loop_rounds 3 ?_
  rw [rounds_succ]
  go_wp2_with (at_builtin; refine wpList_app _ rfl _ _ 22 rfl w.heap.size 3 i0 (.int .i64 0) 1 8 Tryz.underlying22 hi0 hzz0 hzs0 hzb0 rfl (by decide) _ _ _ [] rfl ho _ l.length _ (ints l) rfl ((HL.out.below hb1 (Nat.le_refl _)).more hb1.size) (by intro u hu; simp [ints] at hu; obtain ⟨z, _, rfl⟩ := hu; rfl) (by unfold maxLen; omega) (by omega) (by omega) ?_; intro A2 c2 w2 hown2 hgrow2 hblk2 _)
  have ba := ho.from_
  have q1 : w2.cell? ⟨b, 1, none⟩ = some (.slice A' m.length c') := (World.cell?_of_block (hgrow2.block b (by omega) (fun e => by have := ba _ e.symm; omega))).trans k1
  have hb2 : Below w.heap.size w w2 := hb1.grown hgrow2 hsz (fun g h => ba g h)
  have hsz2 := hb2.size
  clear k0 k1
  simp only [List.nil_append, Nat.zero_add] at hown2
  rw [rounds_succ]
  go_wp2_with (at_builtin; refine wpList_app _ rfl _ _ 22 rfl w.heap.size 3 i0 (.int .i64 0) 1 8 Tryz.underlying22 hi0 hzz0 hzs0 hzb0 rfl (by decide) _ _ _ (ints l) rfl hown2 _ m.length _ (ints m) rfl ((HM.out.below hb2 (Nat.le_refl _)).more hb2.size) (by intro u hu; simp [ints] at hu; obtain ⟨z, _, rfl⟩ := hu; rfl) (by unfold maxLen; omega) (by omega) (by omega) ?_; intro A3 c3 w3 hown3 hgrow3 hblk3 _)
  have hb3 : Below w.heap.size w w3 := hb2.grown hgrow3 hsz2 (fun g h => hown2.from_ g h)
  have HF : Hid (ConcatPost (l ++ m) w (.returned (.slice A3 (l.length + m.length) c3)) w3) := Lib.hid ⟨A3, c3, by simp, by simpa [ints] using hown3, hb3⟩
  clear hown3 hgrow3 hblk3 hown2 hgrow2 hblk2
  rw [rounds_succ]
  go_wp2
  go_ret
  exact HF.out
end Go.Proofs.YtakolnmoieiicaaGreat

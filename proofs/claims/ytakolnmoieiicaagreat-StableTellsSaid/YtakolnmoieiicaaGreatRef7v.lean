/- The document's own answers of layer 7: Fits, Over. -/
import Derived.Test.YtakolnmoieiicaaGreatRef7
import Derived.Test.YtakolnmoieiicaaGreatRef6
import Derived.Test.YtakolnmoieiicaaGreatRef5p
import Derived.Test.YtakolnmoieiicaaGreatRegs
namespace Go.Proofs.YtakolnmoieiicaaGreat
set_option linter.unusedSimpArgs false
set_option linter.unusedVariables false
open Go.RowKit

/-- What the document says of a route that a node may hold, kind by kind. -/
def kindFits (p : Net) (n : Int) (r : Rt) : Bool :=
  if r.kind = 1 then decide (p.proto = 1) else if r.kind = 2 then decide (p.proto = 2) && (decide ((r.path.length : Int) ≤ p.cap) && !decide (asOf p n ∈ r.path)) else true
def rfitsG (p : Net) (n : Int) (r : Rt) : Bool := rightB p && (rtRightB r && (placeB n p.nodes.length && kindFits p n r))
theorem rfits_good {p : Net} (h : rightB p = true) (n : Int) (r : Rt) : rfitsG p n r = (placeB n p.nodes.length && holdsB p n r) := by
  have hp := right_proto h
  unfold rfitsG holdsB fitsB kindFits
  rw [h]
  cases hr : rtRightB r with
  | false => simp
  | true =>
    have hk := (rt_ok hr).kind
    rcases hk with e | e | e <;> rcases hp with f | f <;> simp [e, f]
attribute [local go_sem ↓] Go.wp_at_zero Go.wp_at_succ
set_option maxRecDepth 100000 in
set_option maxHeartbeats 4000000 in
theorem rfits_any (p : Net) (h : Hd) (n : Int) (r : Rt) (A : Option Addr) (c : Nat) (w : World) (hp : NetR w w.heap.size p h) (hs : Small p) (hr : RtR w w.heap.size r A c) :
    Calls Tryz.prog 56 #[netV p h, .int .i64 n, rtV r A c] w fun e w' => e = .returned (.bool (rfitsG p n r)) ∧ Below w.heap.size w w' := by
  have PX : Hid (PR w ((w.alloc (.cells (netCells p h) 30)).alloc (.cells #[.int .i64 r.kind, .int .i64 r.cost, .slice A r.path.length c] 48)) p h r A c) := Lib.hid (PR.begin hp hr)
  have HS := Lib.hid hs
  have hnl := hs.nodes
  have hrl : r.path.length ≤ maxLen := Nat.le_trans hr.2.1 hr.2.2
  unfold maxLen at hrl
  unfold netV netVal rtV
  clear hp hs hr
  go_enter Tryz.func56, Tryz.ntmps56
  go_wp2_with fail
  refine (rright_any p h _ PX.out.net HS.out).mono ?_
  rintro e w1 ⟨rfl, hb1⟩
  have P1 := Lib.hid (PX.out.call hb1)
  have b0 := results_best P1.out.box
  obtain ⟨b0, b1, b2⟩ := b0
  clear hb1 PX
  go_wp2_with fail
  refine (refRight_any r A c _ P1.out.rt).mono ?_
  rintro e w2 ⟨rfl, hb2⟩
  have P2 := Lib.hid (P1.out.call hb2)
  have B2 := Lib.hid P2.out.below
  clear hb2 P1 b0 b1 b2
  cases hrt : rightB p with
  | false =>
    have HF := Lib.hid (show false = rfitsG p n r from by unfold rfitsG; rw [hrt]; rfl)
    clear hrt
    go_wp2
    go_ret
    exact ⟨ret_bool HF.out, B2.out⟩
  | true =>
  cases hrr : rtRightB r with
  | false =>
    have HF := Lib.hid (show false = rfitsG p n r from by unfold rfitsG; rw [hrr]; simp)
    clear hrr hrt
    go_wp2
    go_ret
    exact ⟨ret_bool HF.out, B2.out⟩
  | true =>
  by_cases h0 : n < 0
  · have h0' : decide (n < 0) = true := decide_eq_true h0
    have HF := Lib.hid (show false = rfitsG p n r from by
      have : placeB n p.nodes.length = false := by unfold placeB; simp; omega
      unfold rfitsG; rw [this]; simp)
    clear hrr hrt h0
    go_wp2
    go_ret
    exact ⟨ret_bool HF.out, B2.out⟩
  obtain ⟨n, rfl⟩ : ∃ k : Nat, n = k := ⟨n.toNat, by omega⟩
  have h0' : decide ((n : Int) < 0) = false := decide_eq_false h0
  obtain ⟨g0, g1, g2, g3, g4, g5, g6⟩ := P2.out.all
  by_cases h1 : p.nodes.length ≤ n
  · have h1' : decide ((p.nodes.length : Int) ≤ (n : Int)) = true := decide_eq_true (by omega)
    have h1'' : decide (p.nodes.length ≤ n) = true := decide_eq_true h1
    have HF := Lib.hid (show false = rfitsG p n r from by
      have : placeB n p.nodes.length = false := by unfold placeB; simp; omega
      unfold rfitsG; rw [this]; simp)
    clear hrr hrt h0 h1
    go_wp2
    go_ret
    exact ⟨ret_bool HF.out, B2.out⟩
  have h1' : decide ((p.nodes.length : Int) ≤ (n : Int)) = false := decide_eq_false (by omega)
  have h1'' : decide (p.nodes.length ≤ n) = false := decide_eq_false h1
  have HK : Hid (rfitsG p n r = kindFits p n r) := Lib.hid (by
    have : placeB n p.nodes.length = true := by unfold placeB; simp; omega
    unfold rfitsG; rw [this, hrt, hrr]; simp)
  have HL12 : Hid (r.path.length ≤ 10000) := Lib.hid (by have := (rt_ok hrr).short; omega)
  have hn0 : (0 : Int) ≤ (n : Int) := by omega
  have hn1 : (n : Int) < (p.nodes.length : Int) := by omega
  have hn2 : n < p.nodes.length := by omega
  obtain ⟨b0, b1, b2⟩ := results_best P2.out.box
  clear hrr hrt h0 h1
  by_cases k1 : r.kind = 1
  · have q1 : (r.kind == 1) = true := by simp [k1]
    by_cases hp1 : p.proto = 1
    · have q : (p.proto == 1) = true := by simp [hp1]
      have HF := Lib.hid (show true = rfitsG p n r from by rw [HK.out]; unfold kindFits; simp [k1, hp1])
      clear k1 hp1
      go_wp2
      go_ret
      exact ⟨ret_bool HF.out, B2.out⟩
    · have q : (p.proto == 1) = false := by simp [hp1]
      have HF := Lib.hid (show false = rfitsG p n r from by rw [HK.out]; unfold kindFits; simp [k1, hp1])
      clear k1 hp1
      go_wp2
      go_ret
      exact ⟨ret_bool HF.out, B2.out⟩
  have q1 : (r.kind == 1) = false := by simp [k1]
  by_cases k2 : r.kind = 2
  rotate_left
  · have q2 : (r.kind == 2) = false := by simp [k2]
    have HF := Lib.hid (show true = rfitsG p n r from by rw [HK.out]; unfold kindFits; simp [k1, k2])
    clear k1 k2
    go_wp2
    go_ret
    exact ⟨ret_bool HF.out, B2.out⟩
  have q2 : (r.kind == 2) = true := by simp [k2]
  obtain ⟨x, hx⟩ : ∃ x, p.nodes[n]? = some x := ⟨_, List.getElem?_eq_getElem hn2⟩
  obtain ⟨bn, on, en, hbn, -, hcn⟩ := P2.out.net.nodes.node hx
  have HAS : Hid (asOf p n = x.as_) := Lib.hid (by simp [asOf, hx])
  have HEN := Lib.hid en
  have HK2 : Hid (rfitsG p n r = (decide (p.proto = 2) && (decide ((r.path.length : Int) ≤ p.cap) && !decide (x.as_ ∈ r.path)))) := Lib.hid (by rw [HK.out]; unfold kindFits; rw [if_neg k1, if_pos k2, HAS.out])
  rw [en] at g3
  clear k1 k2 hx en
  go_upto_region 9 with fail
  clear g0 g1 g2 g3 g4 g5 g6 b0 b1 b2
  have HC : Hid (∀ wy, Below w2.heap.size w2 wy → (wy.cell? ⟨w.heap.size, 0, none⟩ = some (.int .i64 p.proto) ∧ wy.cell? ⟨w.heap.size, 1, none⟩ = some (.int .i64 p.cap) ∧ wy.cell? ⟨w.heap.size, 3, none⟩ = some (.slice (some ⟨bn, on, none⟩) p.nodes.length h.cn)) ∧ wy.cell? ⟨w.heap.size + 1, 2, none⟩ = some (.slice A r.path.length c) ∧ wy.cell? ⟨bn, on + n * 2 + 1, none⟩ = some (.int .i64 x.as_)) := Lib.hid (fun wy hb => by
    obtain ⟨g0, g1, g2, g3, -⟩ := (P2.out.call hb).all
    rw [HEN.out] at g3
    exact ⟨⟨g0, g1, g3⟩, (results_best (P2.out.call hb).box).2.2, (hb.cell (p := ⟨bn, _, none⟩) hbn).trans hcn⟩)
  have hBd : Below w2.heap.size w2 w2.drew := below_drew (Below.refl _ _)
  by_cases hp2 : p.proto = 2
  rotate_left
  · have q : (p.proto == 2) = false := by simp [hp2]
    have HF := Lib.hid (show false = rfitsG p n r from by rw [HK2.out]; simp [hp2])
    clear hp2 hcn hbn
    refine wp_region_held_drew (S := (fun wy => (wy.cell? ⟨w.heap.size, 0, none⟩ = some (.int .i64 p.proto) ∧ wy.cell? ⟨w.heap.size, 1, none⟩ = some (.int .i64 p.cap) ∧ wy.cell? ⟨w.heap.size, 3, none⟩ = some (.slice (some ⟨bn, on, none⟩) p.nodes.length h.cn)) ∧ wy.cell? ⟨w.heap.size + 1, 2, none⟩ = some (.slice A r.path.length c) ∧ wy.cell? ⟨bn, on + n * 2 + 1, none⟩ = some (.int .i64 x.as_))) (by kernel_rfl) (HC.out _ hBd) (fun hHeld0 => ?_)
    refine take_list (i := 0) (v := ?_) rfl (by kernel_rfl) (by kernel_rfl) (by kernel_rfl) (fun _ _ _ h => h) (Or.inl ⟨by rfl, ?_⟩) (by assumption) ?_
    rotate_left
    · (intro w hSw; (try dsimp only at hSw); go_simp; try (with_reducible rfl))
    try simp only [Act.put, List.setIfInBounds_toArray, List.set_cons_zero, List.set_cons_succ]
    refine take_list (i := 1) (v := ?_) rfl (by kernel_rfl) (by kernel_rfl) (by kernel_rfl) (fun _ _ _ h => h) (Or.inl ⟨by rfl, ?_⟩) (by assumption) ?_
    rotate_left
    · (intro w hSw; (try dsimp only at hSw); go_simp; try (with_reducible rfl))
    try simp only [Act.put, List.setIfInBounds_toArray, List.set_cons_zero, List.set_cons_succ]
    refine take_list (i := 2) (v := ?_) rfl (by kernel_rfl) (by kernel_rfl) (by kernel_rfl) (fun _ _ _ h => h) (Or.inl ⟨by rfl, ?_⟩) (by assumption) ?_
    rotate_left
    · (intro w hSw; (try dsimp only at hSw); go_simp; try (with_reducible rfl))
    try simp only [Act.put, List.setIfInBounds_toArray, List.set_cons_zero, List.set_cons_succ]
    refine take_list (i := 3) (v := ?_) rfl (by kernel_rfl) (by kernel_rfl) (by kernel_rfl) (fun _ _ _ h => h) (Or.inl ⟨by rfl, ?_⟩) (by assumption) ?_
    rotate_left
    · (intro w hSw; (try dsimp only at hSw); go_simp; try (with_reducible rfl))
    try simp only [Act.put, List.setIfInBounds_toArray, List.set_cons_zero, List.set_cons_succ]
    refine take_list (i := 4) (v := undef) rfl (by kernel_rfl) (by kernel_rfl) (by kernel_rfl) (fun _ _ _ h => h) (Or.inr ⟨by rfl, rfl⟩) (by assumption) ?_
    try simp only [Act.put, List.setIfInBounds_toArray, List.set_cons_zero, List.set_cons_succ]
    refine take_list (i := 5) (v := undef) rfl (by kernel_rfl) (by kernel_rfl) (by kernel_rfl) (fun _ _ _ h => h) (Or.inr ⟨by rfl, rfl⟩) (by assumption) ?_
    try simp only [Act.put, List.setIfInBounds_toArray, List.set_cons_zero, List.set_cons_succ]
    refine take_list (i := 6) (v := undef) rfl (by kernel_rfl) (by kernel_rfl) (by kernel_rfl) (fun _ _ _ h => h) (Or.inr ⟨by rfl, rfl⟩) (by assumption) ?_
    try simp only [Act.put, List.setIfInBounds_toArray, List.set_cons_zero, List.set_cons_succ]
    refine take_list (i := 7) (v := undef) rfl (by kernel_rfl) (by kernel_rfl) (by kernel_rfl) (fun _ _ _ h => h) (Or.inr ⟨by rfl, rfl⟩) (by assumption) ?_
    try simp only [Act.put, List.setIfInBounds_toArray, List.set_cons_zero, List.set_cons_succ]
    refine take_list (i := 8) (v := undef) rfl (by kernel_rfl) (by kernel_rfl) (by kernel_rfl) (fun _ _ _ h => h) (Or.inr ⟨by rfl, rfl⟩) (by assumption) ?_
    try simp only [Act.put, List.setIfInBounds_toArray, List.set_cons_zero, List.set_cons_succ]
    refine take_list (i := 9) (v := undef) rfl (by kernel_rfl) (by kernel_rfl) (by kernel_rfl) (fun _ _ _ h => h) (Or.inr ⟨by rfl, rfl⟩) (by assumption) ?_
    try simp only [Act.put, List.setIfInBounds_toArray, List.set_cons_zero, List.set_cons_succ]
    refine take_list (i := 10) (v := ?_) rfl (by kernel_rfl) (by kernel_rfl) (by kernel_rfl) (fun _ _ _ h => h) (Or.inl ⟨by rfl, ?_⟩) (by assumption) ?_
    rotate_left
    · (intro w hSw; (try dsimp only at hSw); go_simp; try (with_reducible rfl))
    try simp only [Act.put, List.setIfInBounds_toArray, List.set_cons_zero, List.set_cons_succ]
    refine take_list (i := 11) (v := ?_) rfl (by kernel_rfl) (by kernel_rfl) (by kernel_rfl) (fun _ _ _ h => h) (Or.inl ⟨by rfl, ?_⟩) (by assumption) ?_
    rotate_left
    · (intro w hSw; (try dsimp only at hSw); go_simp; try (with_reducible rfl))
    try simp only [Act.put, List.setIfInBounds_toArray, List.set_cons_zero, List.set_cons_succ]
    refine take_list (i := 12) (v := undef) rfl (by kernel_rfl) (by kernel_rfl) (by kernel_rfl) (fun _ _ _ h => h) (Or.inr ⟨by rfl, rfl⟩) (by assumption) ?_
    try simp only [Act.put, List.setIfInBounds_toArray, List.set_cons_zero, List.set_cons_succ]
    refine take_list (i := 13) (v := undef) rfl (by kernel_rfl) (by kernel_rfl) (by kernel_rfl) (fun _ _ _ h => h) (Or.inr ⟨by rfl, rfl⟩) (by assumption) ?_
    try simp only [Act.put, List.setIfInBounds_toArray, List.set_cons_zero, List.set_cons_succ]
    refine take_list (i := 14) (v := undef) rfl (by kernel_rfl) (by kernel_rfl) (by kernel_rfl) (fun _ _ _ h => h) (Or.inr ⟨by rfl, rfl⟩) (by assumption) ?_
    try simp only [Act.put, List.setIfInBounds_toArray, List.set_cons_zero, List.set_cons_succ]
    refine take_list (i := 15) (v := undef) rfl (by kernel_rfl) (by kernel_rfl) (by kernel_rfl) (fun _ _ _ h => h) (Or.inr ⟨by rfl, rfl⟩) (by assumption) ?_
    try simp only [Act.put, List.setIfInBounds_toArray, List.set_cons_zero, List.set_cons_succ]
    refine take_list (i := 16) (v := undef) rfl (by kernel_rfl) (by kernel_rfl) (by kernel_rfl) (fun _ _ _ h => h) (Or.inr ⟨by rfl, rfl⟩) (by assumption) ?_
    try simp only [Act.put, List.setIfInBounds_toArray, List.set_cons_zero, List.set_cons_succ]
    refine take_list (i := 17) (v := undef) rfl (by kernel_rfl) (by kernel_rfl) (by kernel_rfl) (fun _ _ _ h => h) (Or.inr ⟨by rfl, rfl⟩) (by assumption) ?_
    try simp only [Act.put, List.setIfInBounds_toArray, List.set_cons_zero, List.set_cons_succ]
    refine take_list (i := 18) (v := undef) rfl (by kernel_rfl) (by kernel_rfl) (by kernel_rfl) (fun _ _ _ h => h) (Or.inr ⟨by rfl, rfl⟩) (by assumption) ?_
    try simp only [Act.put, List.setIfInBounds_toArray, List.set_cons_zero, List.set_cons_succ]
    refine take_list (i := 19) (v := undef) rfl (by kernel_rfl) (by kernel_rfl) (by kernel_rfl) (fun _ _ _ h => h) (Or.inr ⟨by rfl, rfl⟩) (by assumption) ?_
    try simp only [Act.put, List.setIfInBounds_toArray, List.set_cons_zero, List.set_cons_succ]
    refine take_list (i := 20) (v := undef) rfl (by kernel_rfl) (by kernel_rfl) (by kernel_rfl) (fun _ _ _ h => h) (Or.inr ⟨by rfl, rfl⟩) (by assumption) ?_
    try simp only [Act.put, List.setIfInBounds_toArray, List.set_cons_zero, List.set_cons_succ]
    refine take_list (i := 21) (v := undef) rfl (by kernel_rfl) (by kernel_rfl) (by kernel_rfl) (fun _ _ _ h => h) (Or.inr ⟨by rfl, rfl⟩) (by assumption) ?_
    try simp only [Act.put, List.setIfInBounds_toArray, List.set_cons_zero, List.set_cons_succ]
    refine take_list (i := 22) (v := ?_) rfl (by kernel_rfl) (by kernel_rfl) (by kernel_rfl) (fun _ _ _ h => h) (Or.inl ⟨by rfl, ?_⟩) (by assumption) ?_
    rotate_left
    · (intro w hSw; (try dsimp only at hSw); go_simp; try (with_reducible rfl))
    try simp only [Act.put, List.setIfInBounds_toArray, List.set_cons_zero, List.set_cons_succ]
    refine take_list (i := 23) (v := ?_) rfl (by kernel_rfl) (by kernel_rfl) (by kernel_rfl) (fun _ _ _ h => h) (Or.inl ⟨by rfl, ?_⟩) (by assumption) ?_
    rotate_left
    · (intro w hSw; (try dsimp only at hSw); go_simp; try (with_reducible rfl))
    try simp only [Act.put, List.setIfInBounds_toArray, List.set_cons_zero, List.set_cons_succ]
    refine wpAnyH_done (by kernel_rfl) ?_ _
    clear hHeld0
    go_wp2
    go_ret
    exact ⟨ret_bool HF.out, P2.out.below.trans (hBd.mono P2.out.below.size)⟩
  have q : (p.proto == 2) = true := by simp [hp2]
  by_cases hcap : (r.path.length : Int) ≤ p.cap
  rotate_left
  · have q3 : decide ((r.path.length : Int) ≤ p.cap) = false := decide_eq_false hcap
    have HF := Lib.hid (show false = rfitsG p n r from by rw [HK2.out]; simp [hcap])
    clear hp2 hcn hbn hcap
    refine wp_region_held_drew (S := (fun wy => (wy.cell? ⟨w.heap.size, 0, none⟩ = some (.int .i64 p.proto) ∧ wy.cell? ⟨w.heap.size, 1, none⟩ = some (.int .i64 p.cap) ∧ wy.cell? ⟨w.heap.size, 3, none⟩ = some (.slice (some ⟨bn, on, none⟩) p.nodes.length h.cn)) ∧ wy.cell? ⟨w.heap.size + 1, 2, none⟩ = some (.slice A r.path.length c) ∧ wy.cell? ⟨bn, on + n * 2 + 1, none⟩ = some (.int .i64 x.as_))) (by kernel_rfl) (HC.out _ hBd) (fun hHeld0 => ?_)
    refine take_list (i := 0) (v := ?_) rfl (by kernel_rfl) (by kernel_rfl) (by kernel_rfl) (fun _ _ _ h => h) (Or.inl ⟨by rfl, ?_⟩) (by assumption) ?_
    rotate_left
    · (intro w hSw; (try dsimp only at hSw); go_simp; try (with_reducible rfl))
    try simp only [Act.put, List.setIfInBounds_toArray, List.set_cons_zero, List.set_cons_succ]
    refine take_list (i := 1) (v := ?_) rfl (by kernel_rfl) (by kernel_rfl) (by kernel_rfl) (fun _ _ _ h => h) (Or.inl ⟨by rfl, ?_⟩) (by assumption) ?_
    rotate_left
    · (intro w hSw; (try dsimp only at hSw); go_simp; try (with_reducible rfl))
    try simp only [Act.put, List.setIfInBounds_toArray, List.set_cons_zero, List.set_cons_succ]
    refine take_list (i := 2) (v := ?_) rfl (by kernel_rfl) (by kernel_rfl) (by kernel_rfl) (fun _ _ _ h => h) (Or.inl ⟨by rfl, ?_⟩) (by assumption) ?_
    rotate_left
    · (intro w hSw; (try dsimp only at hSw); go_simp; try (with_reducible rfl))
    try simp only [Act.put, List.setIfInBounds_toArray, List.set_cons_zero, List.set_cons_succ]
    refine take_list (i := 3) (v := ?_) rfl (by kernel_rfl) (by kernel_rfl) (by kernel_rfl) (fun _ _ _ h => h) (Or.inl ⟨by rfl, ?_⟩) (by assumption) ?_
    rotate_left
    · (intro w hSw; (try dsimp only at hSw); go_simp; try (with_reducible rfl))
    try simp only [Act.put, List.setIfInBounds_toArray, List.set_cons_zero, List.set_cons_succ]
    refine take_list (i := 4) (v := ?_) rfl (by kernel_rfl) (by kernel_rfl) (by kernel_rfl) (fun _ _ _ h => h) (Or.inl ⟨by rfl, ?_⟩) (by assumption) ?_
    rotate_left
    · (intro w hSw; (try dsimp only at hSw); go_simp; try (with_reducible rfl))
    try simp only [Act.put, List.setIfInBounds_toArray, List.set_cons_zero, List.set_cons_succ]
    refine take_list (i := 5) (v := ?_) rfl (by kernel_rfl) (by kernel_rfl) (by kernel_rfl) (fun _ _ _ h => h) (Or.inl ⟨by rfl, ?_⟩) (by assumption) ?_
    rotate_left
    · (intro w hSw; (try dsimp only at hSw); go_simp; try (with_reducible rfl))
    try simp only [Act.put, List.setIfInBounds_toArray, List.set_cons_zero, List.set_cons_succ]
    refine take_list (i := 6) (v := ?_) rfl (by kernel_rfl) (by kernel_rfl) (by kernel_rfl) (fun _ _ _ h => h) (Or.inl ⟨by rfl, ?_⟩) (by assumption) ?_
    rotate_left
    · (intro w hSw; (try dsimp only at hSw); go_simp; try (with_reducible rfl))
    try simp only [Act.put, List.setIfInBounds_toArray, List.set_cons_zero, List.set_cons_succ]
    refine take_list (i := 7) (v := ?_) rfl (by kernel_rfl) (by kernel_rfl) (by kernel_rfl) (fun _ _ _ h => h) (Or.inl ⟨by rfl, ?_⟩) (by assumption) ?_
    rotate_left
    · (intro w hSw; (try dsimp only at hSw); go_simp; try (with_reducible rfl))
    try simp only [Act.put, List.setIfInBounds_toArray, List.set_cons_zero, List.set_cons_succ]
    refine take_list (i := 8) (v := ?_) rfl (by kernel_rfl) (by kernel_rfl) (by kernel_rfl) (fun _ _ _ h => h) (Or.inl ⟨by rfl, ?_⟩) (by assumption) ?_
    rotate_left
    · (intro w hSw; (try dsimp only at hSw); go_simp; try (with_reducible rfl))
    try simp only [Act.put, List.setIfInBounds_toArray, List.set_cons_zero, List.set_cons_succ]
    refine take_list (i := 9) (v := ?_) rfl (by kernel_rfl) (by kernel_rfl) (by kernel_rfl) (fun _ _ _ h => h) (Or.inl ⟨by rfl, ?_⟩) (by assumption) ?_
    rotate_left
    · (intro w hSw; (try dsimp only at hSw); go_simp; try (with_reducible rfl))
    try simp only [Act.put, List.setIfInBounds_toArray, List.set_cons_zero, List.set_cons_succ]
    refine take_list (i := 10) (v := ?_) rfl (by kernel_rfl) (by kernel_rfl) (by kernel_rfl) (fun _ _ _ h => h) (Or.inl ⟨by rfl, ?_⟩) (by assumption) ?_
    rotate_left
    · (intro w hSw; (try dsimp only at hSw); go_simp; try (with_reducible rfl))
    try simp only [Act.put, List.setIfInBounds_toArray, List.set_cons_zero, List.set_cons_succ]
    refine take_list (i := 11) (v := ?_) rfl (by kernel_rfl) (by kernel_rfl) (by kernel_rfl) (fun _ _ _ h => h) (Or.inl ⟨by rfl, ?_⟩) (by assumption) ?_
    rotate_left
    · (intro w hSw; (try dsimp only at hSw); go_simp; try (with_reducible rfl))
    try simp only [Act.put, List.setIfInBounds_toArray, List.set_cons_zero, List.set_cons_succ]
    refine take_list (i := 12) (v := undef) rfl (by kernel_rfl) (by kernel_rfl) (by kernel_rfl) (fun _ _ _ h => h) (Or.inr ⟨by rfl, rfl⟩) (by assumption) ?_
    try simp only [Act.put, List.setIfInBounds_toArray, List.set_cons_zero, List.set_cons_succ]
    refine take_list (i := 13) (v := undef) rfl (by kernel_rfl) (by kernel_rfl) (by kernel_rfl) (fun _ _ _ h => h) (Or.inr ⟨by rfl, rfl⟩) (by assumption) ?_
    try simp only [Act.put, List.setIfInBounds_toArray, List.set_cons_zero, List.set_cons_succ]
    refine take_list (i := 14) (v := undef) rfl (by kernel_rfl) (by kernel_rfl) (by kernel_rfl) (fun _ _ _ h => h) (Or.inr ⟨by rfl, rfl⟩) (by assumption) ?_
    try simp only [Act.put, List.setIfInBounds_toArray, List.set_cons_zero, List.set_cons_succ]
    refine take_list (i := 15) (v := undef) rfl (by kernel_rfl) (by kernel_rfl) (by kernel_rfl) (fun _ _ _ h => h) (Or.inr ⟨by rfl, rfl⟩) (by assumption) ?_
    try simp only [Act.put, List.setIfInBounds_toArray, List.set_cons_zero, List.set_cons_succ]
    refine take_list (i := 16) (v := undef) rfl (by kernel_rfl) (by kernel_rfl) (by kernel_rfl) (fun _ _ _ h => h) (Or.inr ⟨by rfl, rfl⟩) (by assumption) ?_
    try simp only [Act.put, List.setIfInBounds_toArray, List.set_cons_zero, List.set_cons_succ]
    refine take_list (i := 17) (v := undef) rfl (by kernel_rfl) (by kernel_rfl) (by kernel_rfl) (fun _ _ _ h => h) (Or.inr ⟨by rfl, rfl⟩) (by assumption) ?_
    try simp only [Act.put, List.setIfInBounds_toArray, List.set_cons_zero, List.set_cons_succ]
    refine take_list (i := 18) (v := undef) rfl (by kernel_rfl) (by kernel_rfl) (by kernel_rfl) (fun _ _ _ h => h) (Or.inr ⟨by rfl, rfl⟩) (by assumption) ?_
    try simp only [Act.put, List.setIfInBounds_toArray, List.set_cons_zero, List.set_cons_succ]
    refine take_list (i := 19) (v := undef) rfl (by kernel_rfl) (by kernel_rfl) (by kernel_rfl) (fun _ _ _ h => h) (Or.inr ⟨by rfl, rfl⟩) (by assumption) ?_
    try simp only [Act.put, List.setIfInBounds_toArray, List.set_cons_zero, List.set_cons_succ]
    refine take_list (i := 20) (v := undef) rfl (by kernel_rfl) (by kernel_rfl) (by kernel_rfl) (fun _ _ _ h => h) (Or.inr ⟨by rfl, rfl⟩) (by assumption) ?_
    try simp only [Act.put, List.setIfInBounds_toArray, List.set_cons_zero, List.set_cons_succ]
    refine take_list (i := 21) (v := undef) rfl (by kernel_rfl) (by kernel_rfl) (by kernel_rfl) (fun _ _ _ h => h) (Or.inr ⟨by rfl, rfl⟩) (by assumption) ?_
    try simp only [Act.put, List.setIfInBounds_toArray, List.set_cons_zero, List.set_cons_succ]
    refine take_list (i := 22) (v := ?_) rfl (by kernel_rfl) (by kernel_rfl) (by kernel_rfl) (fun _ _ _ h => h) (Or.inl ⟨by rfl, ?_⟩) (by assumption) ?_
    rotate_left
    · (intro w hSw; (try dsimp only at hSw); go_simp; try (with_reducible rfl))
    try simp only [Act.put, List.setIfInBounds_toArray, List.set_cons_zero, List.set_cons_succ]
    refine take_list (i := 23) (v := ?_) rfl (by kernel_rfl) (by kernel_rfl) (by kernel_rfl) (fun _ _ _ h => h) (Or.inl ⟨by rfl, ?_⟩) (by assumption) ?_
    rotate_left
    · (intro w hSw; (try dsimp only at hSw); go_simp; try (with_reducible rfl))
    try simp only [Act.put, List.setIfInBounds_toArray, List.set_cons_zero, List.set_cons_succ]
    refine wpAnyH_done (by kernel_rfl) ?_ _
    clear hHeld0
    go_wp2
    go_ret
    exact ⟨ret_bool HF.out, P2.out.below.trans (hBd.mono P2.out.below.size)⟩
  have q3 : decide ((r.path.length : Int) ≤ p.cap) = true := decide_eq_true hcap
  have HF := Lib.hid (show (!decide (x.as_ ∈ r.path)) = rfitsG p n r from by rw [HK2.out]; simp [hp2, hcap])
  have CI : Hid (∀ wy, Below w2.heap.size w2 wy → Calls Tryz.prog 78 #[.slice A r.path.length c, .int .i64 x.as_] wy fun e w' => e = .returned (.bool (decide (x.as_ ∈ r.path))) ∧ Below w2.heap.size w2 w') := Lib.hid (fun wy hb =>
    (rin_any r.path x.as_ A c wy (P2.out.call hb).rt.1 HL12.out).mono fun e w' ⟨h1, h2⟩ => ⟨h1, since_trans hb h2⟩)
  clear hp2 hcn hbn hcap
  refine wp_region_held_drew (S := (fun wy => (wy.cell? ⟨w.heap.size, 0, none⟩ = some (.int .i64 p.proto) ∧ wy.cell? ⟨w.heap.size, 1, none⟩ = some (.int .i64 p.cap) ∧ wy.cell? ⟨w.heap.size, 3, none⟩ = some (.slice (some ⟨bn, on, none⟩) p.nodes.length h.cn)) ∧ wy.cell? ⟨w.heap.size + 1, 2, none⟩ = some (.slice A r.path.length c) ∧ wy.cell? ⟨bn, on + n * 2 + 1, none⟩ = some (.int .i64 x.as_))) (by kernel_rfl) (HC.out _ hBd) (fun hHeld0 => ?_)
  refine take_list (i := 0) (v := ?_) rfl (by kernel_rfl) (by kernel_rfl) (by kernel_rfl) (fun _ _ _ h => h) (Or.inl ⟨by rfl, ?_⟩) (by assumption) ?_
  rotate_left
  · (intro w hSw; (try dsimp only at hSw); go_simp; try (with_reducible rfl))
  try simp only [Act.put, List.setIfInBounds_toArray, List.set_cons_zero, List.set_cons_succ]
  refine take_list (i := 1) (v := ?_) rfl (by kernel_rfl) (by kernel_rfl) (by kernel_rfl) (fun _ _ _ h => h) (Or.inl ⟨by rfl, ?_⟩) (by assumption) ?_
  rotate_left
  · (intro w hSw; (try dsimp only at hSw); go_simp; try (with_reducible rfl))
  try simp only [Act.put, List.setIfInBounds_toArray, List.set_cons_zero, List.set_cons_succ]
  refine take_list (i := 2) (v := ?_) rfl (by kernel_rfl) (by kernel_rfl) (by kernel_rfl) (fun _ _ _ h => h) (Or.inl ⟨by rfl, ?_⟩) (by assumption) ?_
  rotate_left
  · (intro w hSw; (try dsimp only at hSw); go_simp; try (with_reducible rfl))
  try simp only [Act.put, List.setIfInBounds_toArray, List.set_cons_zero, List.set_cons_succ]
  refine take_list (i := 3) (v := ?_) rfl (by kernel_rfl) (by kernel_rfl) (by kernel_rfl) (fun _ _ _ h => h) (Or.inl ⟨by rfl, ?_⟩) (by assumption) ?_
  rotate_left
  · (intro w hSw; (try dsimp only at hSw); go_simp; try (with_reducible rfl))
  try simp only [Act.put, List.setIfInBounds_toArray, List.set_cons_zero, List.set_cons_succ]
  refine take_list (i := 4) (v := ?_) rfl (by kernel_rfl) (by kernel_rfl) (by kernel_rfl) (fun _ _ _ h => h) (Or.inl ⟨by rfl, ?_⟩) (by assumption) ?_
  rotate_left
  · (intro w hSw; (try dsimp only at hSw); go_simp; try (with_reducible rfl))
  try simp only [Act.put, List.setIfInBounds_toArray, List.set_cons_zero, List.set_cons_succ]
  refine take_list (i := 5) (v := ?_) rfl (by kernel_rfl) (by kernel_rfl) (by kernel_rfl) (fun _ _ _ h => h) (Or.inl ⟨by rfl, ?_⟩) (by assumption) ?_
  rotate_left
  · (intro w hSw; (try dsimp only at hSw); go_simp; try (with_reducible rfl))
  try simp only [Act.put, List.setIfInBounds_toArray, List.set_cons_zero, List.set_cons_succ]
  refine take_list (i := 6) (v := ?_) rfl (by kernel_rfl) (by kernel_rfl) (by kernel_rfl) (fun _ _ _ h => h) (Or.inl ⟨by rfl, ?_⟩) (by assumption) ?_
  rotate_left
  · (intro w hSw; (try dsimp only at hSw); go_simp; try (with_reducible rfl))
  try simp only [Act.put, List.setIfInBounds_toArray, List.set_cons_zero, List.set_cons_succ]
  refine take_list (i := 7) (v := ?_) rfl (by kernel_rfl) (by kernel_rfl) (by kernel_rfl) (fun _ _ _ h => h) (Or.inl ⟨by rfl, ?_⟩) (by assumption) ?_
  rotate_left
  · (intro w hSw; (try dsimp only at hSw); go_simp; try (with_reducible rfl))
  try simp only [Act.put, List.setIfInBounds_toArray, List.set_cons_zero, List.set_cons_succ]
  refine take_list (i := 8) (v := ?_) rfl (by kernel_rfl) (by kernel_rfl) (by kernel_rfl) (fun _ _ _ h => h) (Or.inl ⟨by rfl, ?_⟩) (by assumption) ?_
  rotate_left
  · (intro w hSw; (try dsimp only at hSw); go_simp; try (with_reducible rfl))
  try simp only [Act.put, List.setIfInBounds_toArray, List.set_cons_zero, List.set_cons_succ]
  refine take_list (i := 9) (v := ?_) rfl (by kernel_rfl) (by kernel_rfl) (by kernel_rfl) (fun _ _ _ h => h) (Or.inl ⟨by rfl, ?_⟩) (by assumption) ?_
  rotate_left
  · (intro w hSw; (try dsimp only at hSw); go_simp; try (with_reducible rfl))
  try simp only [Act.put, List.setIfInBounds_toArray, List.set_cons_zero, List.set_cons_succ]
  refine take_list (i := 10) (v := ?_) rfl (by kernel_rfl) (by kernel_rfl) (by kernel_rfl) (fun _ _ _ h => h) (Or.inl ⟨by rfl, ?_⟩) (by assumption) ?_
  rotate_left
  · (intro w hSw; (try dsimp only at hSw); go_simp; try (with_reducible rfl))
  try simp only [Act.put, List.setIfInBounds_toArray, List.set_cons_zero, List.set_cons_succ]
  refine take_list (i := 11) (v := ?_) rfl (by kernel_rfl) (by kernel_rfl) (by kernel_rfl) (fun _ _ _ h => h) (Or.inl ⟨by rfl, ?_⟩) (by assumption) ?_
  rotate_left
  · (intro w hSw; (try dsimp only at hSw); go_simp; try (with_reducible rfl))
  try simp only [Act.put, List.setIfInBounds_toArray, List.set_cons_zero, List.set_cons_succ]
  refine take_list (i := 12) (v := ?_) rfl (by kernel_rfl) (by kernel_rfl) (by kernel_rfl) (fun _ _ _ h => h) (Or.inl ⟨by rfl, ?_⟩) (by assumption) ?_
  rotate_left
  · (intro w hSw; (try dsimp only at hSw); go_simp; try (with_reducible rfl))
  try simp only [Act.put, List.setIfInBounds_toArray, List.set_cons_zero, List.set_cons_succ]
  refine take_list (i := 13) (v := ?_) rfl (by kernel_rfl) (by kernel_rfl) (by kernel_rfl) (fun _ _ _ h => h) (Or.inl ⟨by rfl, ?_⟩) (by assumption) ?_
  rotate_left
  · (intro w hSw; (try dsimp only at hSw); go_simp; try (with_reducible rfl))
  try simp only [Act.put, List.setIfInBounds_toArray, List.set_cons_zero, List.set_cons_succ]
  refine take_list (i := 14) (v := ?_) rfl (by kernel_rfl) (by kernel_rfl) (by kernel_rfl) (fun _ _ _ h => h) (Or.inl ⟨by rfl, ?_⟩) (by assumption) ?_
  rotate_left
  · (intro w hSw; (try dsimp only at hSw); go_simp; try (with_reducible rfl))
  try simp only [Act.put, List.setIfInBounds_toArray, List.set_cons_zero, List.set_cons_succ]
  refine take_list (i := 15) (v := ?_) rfl (by kernel_rfl) (by kernel_rfl) (by kernel_rfl) (fun _ _ _ h => h) (Or.inl ⟨by rfl, ?_⟩) (by assumption) ?_
  rotate_left
  · (intro w hSw; (try dsimp only at hSw); go_simp; try (with_reducible rfl))
  try simp only [Act.put, List.setIfInBounds_toArray, List.set_cons_zero, List.set_cons_succ]
  refine take_list (i := 16) (v := ?_) rfl (by kernel_rfl) (by kernel_rfl) (by kernel_rfl) (fun _ _ _ h => h) (Or.inl ⟨by rfl, ?_⟩) (by assumption) ?_
  rotate_left
  · (intro w hSw; (try dsimp only at hSw); go_simp; try (with_reducible rfl))
  try simp only [Act.put, List.setIfInBounds_toArray, List.set_cons_zero, List.set_cons_succ]
  refine take_list (i := 17) (v := ?_) rfl (by kernel_rfl) (by kernel_rfl) (by kernel_rfl) (fun _ _ _ h => h) (Or.inl ⟨by rfl, ?_⟩) (by assumption) ?_
  rotate_left
  · (intro w hSw; (try dsimp only at hSw); go_simp; try (with_reducible rfl))
  try simp only [Act.put, List.setIfInBounds_toArray, List.set_cons_zero, List.set_cons_succ]
  refine take_list (i := 18) (v := ?_) rfl (by kernel_rfl) (by kernel_rfl) (by kernel_rfl) (fun _ _ _ h => h) (Or.inl ⟨by rfl, ?_⟩) (by assumption) ?_
  rotate_left
  · (intro w hSw; (try dsimp only at hSw); go_simp; try (with_reducible rfl))
  try simp only [Act.put, List.setIfInBounds_toArray, List.set_cons_zero, List.set_cons_succ]
  refine take_list (i := 19) (v := ?_) rfl (by kernel_rfl) (by kernel_rfl) (by kernel_rfl) (fun _ _ _ h => h) (Or.inl ⟨by rfl, ?_⟩) (by assumption) ?_
  rotate_left
  · (intro w hSw; (try dsimp only at hSw); go_simp; try (with_reducible rfl))
  try simp only [Act.put, List.setIfInBounds_toArray, List.set_cons_zero, List.set_cons_succ]
  refine wpAnyH_ready (rs := [20]) (by kernel_rfl) (by simp) ?_
  refine cons_list rfl (fun K hK => ?_) AllReadyH.nil
  go_simp
  (go_at_call 78; refine (CI.out _ hBd).mono ?_; rintro e w3 ⟨rfl, hB3⟩)
  refine hK.out _ _ (HC.out _ (by assumption)) (fun hHeld1 => ?_)
  clear hK K hHeld0
  try simp only [Act.put, List.setIfInBounds_toArray, List.set_cons_zero, List.set_cons_succ]
  refine take_list (i := 21) (v := ?_) rfl (by kernel_rfl) (by kernel_rfl) (by kernel_rfl) (fun _ _ _ h => h) (Or.inl ⟨by rfl, ?_⟩) (by assumption) ?_
  rotate_left
  · (intro w hSw; (try dsimp only at hSw); go_simp; try (with_reducible rfl))
  try simp only [Act.put, List.setIfInBounds_toArray, List.set_cons_zero, List.set_cons_succ]
  refine take_list (i := 22) (v := ?_) rfl (by kernel_rfl) (by kernel_rfl) (by kernel_rfl) (fun _ _ _ h => h) (Or.inl ⟨by rfl, ?_⟩) (by assumption) ?_
  rotate_left
  · (intro w hSw; (try dsimp only at hSw); go_simp; try (with_reducible rfl))
  try simp only [Act.put, List.setIfInBounds_toArray, List.set_cons_zero, List.set_cons_succ]
  refine take_list (i := 23) (v := ?_) rfl (by kernel_rfl) (by kernel_rfl) (by kernel_rfl) (fun _ _ _ h => h) (Or.inl ⟨by rfl, ?_⟩) (by assumption) ?_
  rotate_left
  · (intro w hSw; (try dsimp only at hSw); go_simp; try (with_reducible rfl))
  try simp only [Act.put, List.setIfInBounds_toArray, List.set_cons_zero, List.set_cons_succ]
  refine wpAnyH_done (by kernel_rfl) ?_ _
  clear hHeld1
  go_wp2
  go_ret
  exact ⟨ret_bool HF.out, P2.out.below.trans (hB3.mono P2.out.below.size)⟩

/-- What a name says is in what makes a network right. -/
theorem good_of {p : Net} (hs : Small p) (h : rightB p = true) : Good p := by
  refine ⟨hs, ?_, h⟩
  simp only [rightB, namedB, Bool.and_eq_true, Bool.not_eq_true'] at h
  exact h.2.2.2.2.2.2.1.1
def overG (p : Net) (k n : Int) (r : Rt) : Rt := if rightB p = true then overR p k n r else rtNone
theorem over_good {p : Net} (h : rightB p = true) (k n : Int) (r : Rt) : overG p k n r = overR p k n r := by unfold overG; rw [if_pos h]
theorem roth_eq (p : Net) (k n : Int) : rothB p k n = if rightB p = true then othL p.links k n else -1 := by unfold rothB othL; rfl
/-- A network's copy, a route's, and the answer's box. -/
structure PR3 (w wr : World) (p : Net) (h : Hd) (r : Rt) (A : Option Addr) (c : Nat) : Prop where
  pr : PR w wr p h r A c
  res : wr.heap[w.heap.size + 2]? = some (.cells #[.int .i64 0, .int .i64 0, .slice none 0 0] 48 (0, 0))
section
variable {w wr w' : World} {p : Net} {h : Hd} {r : Rt} {A : Option Addr} {c : Nat}
theorem PR3.begin (hp : NetR w w.heap.size p h) (hr : RtR w w.heap.size r A c) : PR3 w (((w.alloc (.cells (netCells p h) 30)).alloc (.cells #[.int .i64 r.kind, .int .i64 r.cost, .slice A r.path.length c] 48)).alloc (.cells #[.int .i64 0, .int .i64 0, .slice none 0 0] 48)) p h r A c :=
  ⟨(PR.begin hp hr).call ((Below.refl _ _).alloc (Nat.le_refl _) _), by have := heap_alloc_new ((w.alloc (.cells (netCells p h) 30)).alloc (.cells #[.int .i64 r.kind, .int .i64 r.cost, .slice A r.path.length c] 48)) (.cells #[.int .i64 0, .int .i64 0, .slice none 0 0] 48); simpa using this⟩
theorem PR3.call (a : PR3 w wr p h r A c) (hb : Below wr.heap.size wr w') : PR3 w w' p h r A c := ⟨a.pr.call hb, (hb.block _ (lt_heap a.res)).trans a.res⟩
theorem PR3.put (a : PR3 w wr p h r A c) (u0 u1 u2 : Value) : Below w.heap.size w (((wr.setCell ⟨w.heap.size + 2, 0, none⟩ u0).setCell ⟨w.heap.size + 2, 1, none⟩ u1).setCell ⟨w.heap.size + 2, 2, none⟩ u2) ∧
    (wr.cell? ⟨w.heap.size + 2, 0, none⟩ = some (.int .i64 0) ∧ wr.cell? ⟨w.heap.size + 2, 1, none⟩ = some (.int .i64 0) ∧ wr.cell? ⟨w.heap.size + 2, 2, none⟩ = some (.slice none 0 0)) ∧
    (wr.frozen? ⟨w.heap.size + 2, 0, none⟩ = false ∧ wr.frozen? ⟨w.heap.size + 2, 1, none⟩ = false ∧ wr.frozen? ⟨w.heap.size + 2, 2, none⟩ = false) :=
  rt_put (r := rtNone) (A := none) (c := 0) a.pr.below (Nat.le_add_right _ _) a.res u0 u1 u2
end
theorem own_one {w : World} (v : Value) (e : TypeId) : Own (w.alloc (.cells #[v] e)) w.heap.size e 1 (some ⟨w.heap.size, 0, none⟩) 1 1 [v] :=
  ⟨rfl, Nat.le_refl _, by simp [maxLen], by simp, by intro g hg; simp [blk] at hg; omega, fun _ => ⟨w.heap.size, 0, _, rfl, heap_alloc_new _ _, by simp, fun j u hu => by simpa using hu⟩⟩
set_option maxRecDepth 100000 in
set_option maxHeartbeats 8000000 in
theorem rover_any (p : Net) (h : Hd) (k n : Int) (r : Rt) (A : Option Addr) (c : Nat) (w : World) (hp : NetR w w.heap.size p h) (hs : Small p) (hr : RtR w w.heap.size r A c) :
    Calls Tryz.prog 53 #[netV p h, .int .i64 k, .int .i64 n, rtV r A c] w (OrPost (overG p k n r) w) := by
  have PX := Lib.hid (PR3.begin hp hr)
  have HS := Lib.hid hs
  obtain ⟨i0, hi0, hz0, hs0, hb0⟩ := info_parts Tryz.info_int
  unfold netV netVal rtV
  clear hp hs hr
  go_enter Tryz.func53, Tryz.ntmps53
  go_wp2_with fail
  refine (rother_any p h k n _ PX.out.pr.net HS.out).mono ?_
  rintro e w1 ⟨rfl, hb1⟩
  have P1 := Lib.hid (PX.out.call hb1)
  obtain ⟨b0, b1, b2⟩ := results_best P1.out.pr.box
  obtain ⟨g0, g1, g2, g3, g4, g5, g6⟩ := P1.out.pr.all
  clear hb1 PX
  go_wp2_with fail
  refine (rfits_any p h (rothB p k n) r A c _ P1.out.pr.net HS.out P1.out.pr.rt).mono ?_
  rintro e w2 ⟨rfl, hb2⟩
  have P2 := Lib.hid (P1.out.call hb2)
  clear hb2 P1 b0 b1 b2 g0 g1 g2 g3 g4 g5 g6
  have HFN : Hid (overG p k n r = rtNone → OrPost (overG p k n r) w (.returned (.agg #[.int .i64 0, .int .i64 0, .slice none 0 0])) (((w2.setCell ⟨w.heap.size + 2, 0, none⟩ (.int .i64 0)).setCell ⟨w.heap.size + 2, 1, none⟩ (.int .i64 0)).setCell ⟨w.heap.size + 2, 2, none⟩ (.slice none 0 0))) := Lib.hid (fun e => ⟨none, 0, by rw [e]; rfl, by rw [e]; exact .inr ⟨rfl, Nat.zero_le _⟩, (P2.out.put _ _ _).1⟩)
  obtain ⟨b0, b1, b2⟩ := results_best P2.out.pr.box
  obtain ⟨-, ⟨r0, r1, r2⟩, ⟨f0, f1, f2⟩⟩ := P2.out.put (.int .i64 0) (.int .i64 0) (.slice none 0 0)
  by_cases hng : rothB p k n < 0
  · have hd : decide (rothB p k n < 0) = true := decide_eq_true hng
    have HF := Lib.hid (HFN.out (by
      unfold overG
      split
      · rename_i hrt
        rw [roth_eq, if_pos hrt] at hng
        exact over_none (.inl hng)
      · rfl))
    clear hng HFN
    go_wp2
    exact bodyPost_ret (v := .agg #[.int .i64 0, .int .i64 0, .slice none 0 0]) (by simp [results, Tryz.results53, go_sem, r0, r1, r2]) rfl HF.out
  have hrt : rightB p = true := by
    cases h : rightB p with
    | true => rfl
    | false => exact absurd (by rw [roth_eq, h]; simp) hng
  have GD := Lib.hid (good_of HS.out hrt)
  have NG := Lib.hid GD.out.netG
  have hro : rothB p k n = othL p.links k n := by rw [roth_eq, if_pos hrt]
  have hd : decide (rothB p k n < 0) = false := decide_eq_false hng
  cases hft : rfitsG p (rothB p k n) r with
  | false =>
    have HF := Lib.hid (HFN.out (by
      rw [over_good hrt]
      refine over_none (.inr (.inr ?_))
      rw [← holds_iff]
      rw [rfits_good hrt, hro] at hft
      obtain ⟨e1, _⟩ := NG.out.ends (show ¬ othL p.links k n < 0 by rw [← hro]; exact hng)
      have hpl : placeB (othL p.links k n) p.nodes.length = true := by unfold placeB; simp; omega
      rw [hpl] at hft
      simpa using hft))
    clear hng HFN hft hro hrt
    go_wp2
    exact bodyPost_ret (v := .agg #[.int .i64 0, .int .i64 0, .slice none 0 0]) (by simp [results, Tryz.results53, go_sem, r0, r1, r2]) rfl HF.out
  | true =>
  have hh : Holds p (asOf p (othL p.links k n)) r := by
    rw [rfits_good hrt, hro] at hft
    simp only [Bool.and_eq_true] at hft
    exact holds_iff.1 hft.2
  by_cases hk0 : r.kind = 0
  · have hq : (r.kind == 0) = true := by simp [hk0]
    have HF := Lib.hid (HFN.out (by rw [over_good hrt]; exact over_none (.inr (.inl hk0))))
    clear hng HFN hft hro hrt hk0 hh
    go_wp2
    exact bodyPost_ret (v := .agg #[.int .i64 0, .int .i64 0, .slice none 0 0]) (by simp [results, Tryz.results53, go_sem, r0, r1, r2]) rfl HF.out
  have hq : (r.kind == 0) = false := by simp [hk0]
  have hog : ¬ othL p.links k n < 0 := by rw [← hro]; exact hng
  obtain ⟨e1, e2, e3, e4⟩ := NG.out.ends hog
  obtain ⟨k, rfl⟩ : ∃ j : Nat, k = j := ⟨k.toNat, by omega⟩
  obtain ⟨n, rfl⟩ : ∃ j : Nat, n = j := ⟨n.toNat, by omega⟩
  obtain ⟨u, hu⟩ : ∃ j : Nat, othL p.links k n = j := ⟨(othL p.links k n).toNat, by omega⟩
  rw [hu] at hro
  rw [hro] at *
  obtain ⟨g0, g1, g2, g3, g4, g5, g6⟩ := P2.out.pr.all
  by_cases hp2 : p.proto = 2
  rotate_left
  · have hp1 : (p.proto == 1) = true := by have := right_proto hrt; simp; omega
    obtain ⟨x, hx⟩ := NG.out.link (k := k) (by omega)
    obtain ⟨bl, ol, el, hbl, -, -, hcl⟩ := P2.out.pr.net.links.link hx.at_
    have hkl : (k : Int) < (p.links.length : Int) := by omega
    have hkl' : k < p.links.length := by omega
    have hk00 : (0 : Int) ≤ (k : Int) := by omega
    have HV : Hid (overG p k n r = if r.cost + x.cost ≤ 15 then ⟨1, r.cost + x.cost, []⟩ else rtNone) := Lib.hid (by rw [over_good hrt, over_vec hp2 hog hk0 hh (by omega), hx.cost])
    have hrc : 0 ≤ r.cost ∧ r.cost ≤ 15 := by
      rcases hh.some hk0 with ⟨q, _⟩ | ⟨_, _, q1, q2, _⟩
      · exact absurd q hp2
      · exact ⟨q1, q2⟩
    have hxc := hx.c
    have hwr : IntKind.i64.wrap (r.cost + x.cost) = r.cost + x.cost := by rw [IntKind.wrap_i64]; omega
    have HEL := Lib.hid el
    rw [el] at g4
    have HC : Hid (∀ wy, Below w2.heap.size w2 wy → wy.cell? ⟨w.heap.size, 4, none⟩ = some (.slice (some ⟨bl, ol, none⟩) p.links.length h.cl) ∧ wy.cell? ⟨w.heap.size + 1, 1, none⟩ = some (.int .i64 r.cost) ∧ wy.cell? ⟨bl, ol + k * 3 + 2, none⟩ = some (.int .i64 x.cost)) := Lib.hid (fun wy hb => by
      obtain ⟨-, -, -, -, g4, -⟩ := (P2.out.call hb).pr.all
      rw [HEL.out] at g4
      exact ⟨g4, (results_best (P2.out.call hb).pr.box).2.1, (hb.cell (p := ⟨bl, _, none⟩) hbl).trans hcl⟩)
    clear hng HFN hft hro hrt hk0 hh hog hp2 hx el hcl hbl hu e1 e2 e3 e4
    go_upto_region 6 with fail
    have hBd : Below w2.heap.size w2 w2.drew := below_drew (Below.refl _ _)
    clear b0 b1 b2 g0 g1 g2 g3 g4 g5 g6 r0 r1 r2 f0 f1 f2
    refine wp_region_held_drew (S := (fun wy => wy.cell? ⟨w.heap.size, 4, none⟩ = some (.slice (some ⟨bl, ol, none⟩) p.links.length h.cl) ∧ wy.cell? ⟨w.heap.size + 1, 1, none⟩ = some (.int .i64 r.cost) ∧ wy.cell? ⟨bl, ol + k * 3 + 2, none⟩ = some (.int .i64 x.cost))) (by kernel_rfl) (HC.out _ hBd) (fun hHeld0 => ?_)
    refine take_list (i := 0) (v := ?_) rfl (by kernel_rfl) (by kernel_rfl) (by kernel_rfl) (fun _ _ _ h => h) (Or.inl ⟨by rfl, ?_⟩) (by assumption) ?_
    rotate_left
    · (intro w hSw; (try dsimp only at hSw); go_simp; try (with_reducible rfl))
    try simp only [Act.put, List.setIfInBounds_toArray, List.set_cons_zero, List.set_cons_succ]
    refine take_list (i := 1) (v := ?_) rfl (by kernel_rfl) (by kernel_rfl) (by kernel_rfl) (fun _ _ _ h => h) (Or.inl ⟨by rfl, ?_⟩) (by assumption) ?_
    rotate_left
    · (intro w hSw; (try dsimp only at hSw); go_simp; try (with_reducible rfl))
    try simp only [Act.put, List.setIfInBounds_toArray, List.set_cons_zero, List.set_cons_succ]
    refine take_list (i := 2) (v := ?_) rfl (by kernel_rfl) (by kernel_rfl) (by kernel_rfl) (fun _ _ _ h => h) (Or.inl ⟨by rfl, ?_⟩) (by assumption) ?_
    rotate_left
    · (intro w hSw; (try dsimp only at hSw); go_simp; try (with_reducible rfl))
    try simp only [Act.put, List.setIfInBounds_toArray, List.set_cons_zero, List.set_cons_succ]
    refine take_list (i := 3) (v := ?_) rfl (by kernel_rfl) (by kernel_rfl) (by kernel_rfl) (fun _ _ _ h => h) (Or.inl ⟨by rfl, ?_⟩) (by assumption) ?_
    rotate_left
    · (intro w hSw; (try dsimp only at hSw); go_simp; try (with_reducible rfl))
    try simp only [Act.put, List.setIfInBounds_toArray, List.set_cons_zero, List.set_cons_succ]
    refine take_list (i := 4) (v := ?_) rfl (by kernel_rfl) (by kernel_rfl) (by kernel_rfl) (fun _ _ _ h => h) (Or.inl ⟨by rfl, ?_⟩) (by assumption) ?_
    rotate_left
    · (intro w hSw; (try dsimp only at hSw); go_simp; try (with_reducible rfl))
    try simp only [Act.put, List.setIfInBounds_toArray, List.set_cons_zero, List.set_cons_succ]
    refine take_list (i := 5) (v := ?_) rfl (by kernel_rfl) (by kernel_rfl) (by kernel_rfl) (fun _ _ _ h => h) (Or.inl ⟨by rfl, ?_⟩) (by assumption) ?_
    rotate_left
    · (intro w hSw; (try dsimp only at hSw); go_simp; try (with_reducible rfl))
    try simp only [Act.put, List.setIfInBounds_toArray, List.set_cons_zero, List.set_cons_succ]
    refine take_list (i := 6) (v := ?_) rfl (by kernel_rfl) (by kernel_rfl) (by kernel_rfl) (fun _ _ _ h => h) (Or.inl ⟨by rfl, ?_⟩) (by assumption) ?_
    rotate_left
    · (intro w hSw; (try dsimp only at hSw); go_simp; try (with_reducible rfl))
    try simp only [Act.put, List.setIfInBounds_toArray, List.set_cons_zero, List.set_cons_succ]
    refine take_list (i := 7) (v := ?_) rfl (by kernel_rfl) (by kernel_rfl) (by kernel_rfl) (fun _ _ _ h => h) (Or.inl ⟨by rfl, ?_⟩) (by assumption) ?_
    rotate_left
    · (intro w hSw; (try dsimp only at hSw); go_simp; try (with_reducible rfl))
    try simp only [Act.put, List.setIfInBounds_toArray, List.set_cons_zero, List.set_cons_succ]
    refine take_list (i := 8) (v := ?_) rfl (by kernel_rfl) (by kernel_rfl) (by kernel_rfl) (fun _ _ _ h => h) (Or.inl ⟨by rfl, ?_⟩) (by assumption) ?_
    rotate_left
    · (intro w hSw; (try dsimp only at hSw); go_simp; try (with_reducible rfl))
    try simp only [Act.put, List.setIfInBounds_toArray, List.set_cons_zero, List.set_cons_succ]
    refine take_list (i := 9) (v := ?_) rfl (by kernel_rfl) (by kernel_rfl) (by kernel_rfl) (fun _ _ _ h => h) (Or.inl ⟨by rfl, ?_⟩) (by assumption) ?_
    rotate_left
    · (intro w hSw; (try dsimp only at hSw); go_simp; try (with_reducible rfl))
    try simp only [Act.put, List.setIfInBounds_toArray, List.set_cons_zero, List.set_cons_succ]
    refine wpAnyH_done (by kernel_rfl) ?_ _
    clear hHeld0
    generalize w2.drew = w3 at *
    have P3 := Lib.hid (P2.out.call hBd)
    clear hBd hwr
    by_cases hle : r.cost + x.cost ≤ 15
    · obtain ⟨hfin, ⟨r0, r1, r2⟩, ⟨f0, f1, f2⟩⟩ := P3.out.put (.int .i64 1) (.int .i64 (r.cost + x.cost)) (.slice none 0 0)
      have HF : Hid (OrPost (overG p k n r) w (.returned (.agg #[.int .i64 1, .int .i64 (r.cost + x.cost), .slice none 0 0])) (((w3.setCell ⟨w.heap.size + 2, 0, none⟩ (.int .i64 1)).setCell ⟨w.heap.size + 2, 1, none⟩ (.int .i64 (r.cost + x.cost))).setCell ⟨w.heap.size + 2, 2, none⟩ (.slice none 0 0))) := Lib.hid (by
        rw [HV.out, if_pos hle]
        exact ⟨none, 0, rfl, .inr ⟨rfl, Nat.zero_le _⟩, hfin⟩)
      have hd15 : decide (15 < r.cost + x.cost) = false := decide_eq_false (by omega)
      clear hfin
      go_wp2
      exact bodyPost_ret (v := .agg #[.int .i64 1, .int .i64 (r.cost + x.cost), .slice none 0 0]) (by simp [results, Tryz.results53, go_sem, r0, r1, r2]) rfl HF.out
    · obtain ⟨hfin, ⟨r0, r1, r2⟩, ⟨f0, f1, f2⟩⟩ := P3.out.put (.int .i64 0) (.int .i64 0) (.slice none 0 0)
      have HF : Hid (OrPost (overG p k n r) w (.returned (.agg #[.int .i64 0, .int .i64 0, .slice none 0 0])) (((w3.setCell ⟨w.heap.size + 2, 0, none⟩ (.int .i64 0)).setCell ⟨w.heap.size + 2, 1, none⟩ (.int .i64 0)).setCell ⟨w.heap.size + 2, 2, none⟩ (.slice none 0 0))) := Lib.hid (by
        rw [HV.out, if_neg hle]
        exact ⟨none, 0, rfl, .inr ⟨rfl, Nat.zero_le _⟩, hfin⟩)
      have hd15 : decide (15 < r.cost + x.cost) = true := decide_eq_true (by omega)
      clear hfin
      go_wp2
      exact bodyPost_ret (v := .agg #[.int .i64 0, .int .i64 0, .slice none 0 0]) (by simp [results, Tryz.results53, go_sem, r0, r1, r2]) rfl HF.out
  · have hp1 : (p.proto == 1) = false := by simp [hp2]
    obtain ⟨x, hx⟩ : ∃ x, p.nodes[u]? = some x := ⟨_, List.getElem?_eq_getElem (by omega)⟩
    obtain ⟨y, hy⟩ : ∃ y, p.nodes[n]? = some y := ⟨_, List.getElem?_eq_getElem (by omega)⟩
    have hax : asOf p (othL p.links k n) = x.as_ := by rw [hu]; simp [asOf, hx]
    have hay : asOf p n = y.as_ := by simp [asOf, hy]
    obtain ⟨bn, on, en, hbn, -, hcx⟩ := P2.out.pr.net.nodes.node hx
    obtain ⟨bn', on', en', hbn', -, hcy⟩ := P2.out.pr.net.nodes.node hy
    rw [en] at en'
    injection en' with en'
    injection en' with q1 q2
    subst q1 q2
    have hul : (u : Int) < (p.nodes.length : Int) := by omega
    have hul' : u < p.nodes.length := by omega
    have hu00 : (0 : Int) ≤ (u : Int) := by omega
    have hnl : (n : Int) < (p.nodes.length : Int) := by omega
    have hnl' : n < p.nodes.length := by omega
    have hn00 : (0 : Int) ≤ (n : Int) := by omega
    have HV : Hid (overG p k n r = if ((x.as_ :: r.path).length : Int) ≤ p.cap ∧ y.as_ ∉ x.as_ :: r.path then ⟨2, 0, x.as_ :: r.path⟩ else rtNone) := Lib.hid (by
      rw [over_good hrt, over_path NG.out hp2 hog hk0 hh (NG.out.asIn e1.1 e1.2), hax, hay]
      have : ((r.path.length : Int) < p.cap ∧ y.as_ ≠ x.as_ ∧ y.as_ ∉ r.path) ↔ (((x.as_ :: r.path).length : Int) ≤ p.cap ∧ y.as_ ∉ x.as_ :: r.path) := by
        simp only [List.length_cons, List.mem_cons, not_or]
        constructor
        · rintro ⟨h1, h2, h3⟩; exact ⟨by omega, h2, h3⟩
        · rintro ⟨h1, h2, h3⟩; exact ⟨by omega, h2, h3⟩
      by_cases hc : ((x.as_ :: r.path).length : Int) ≤ p.cap ∧ y.as_ ∉ x.as_ :: r.path
      · rw [if_pos (this.2 hc), if_pos hc]
      · rw [if_neg (fun h => hc (this.1 h)), if_neg hc])
    have hr12 : r.path.length ≤ 12 := hh.1.short
    have HEN := Lib.hid en
    rw [en] at g3
    have HC : Hid (∀ wy, Below w2.heap.size w2 wy → (wy.cell? ⟨w.heap.size, 1, none⟩ = some (.int .i64 p.cap) ∧ wy.cell? ⟨w.heap.size, 3, none⟩ = some (.slice (some ⟨bn, on, none⟩) p.nodes.length h.cn)) ∧ wy.cell? ⟨w.heap.size + 1, 2, none⟩ = some (.slice A r.path.length c) ∧ wy.cell? ⟨bn, on + u * 2 + 1, none⟩ = some (.int .i64 x.as_) ∧ wy.cell? ⟨bn, on + n * 2 + 1, none⟩ = some (.int .i64 y.as_)) := Lib.hid (fun wy hb => by
      obtain ⟨-, g1, -, g3, -⟩ := (P2.out.call hb).pr.all
      rw [HEN.out] at g3
      exact ⟨⟨g1, g3⟩, (results_best (P2.out.call hb).pr.box).2.2, (hb.cell (p := ⟨bn, _, none⟩) hbn).trans hcx, (hb.cell (p := ⟨bn, _, none⟩) hbn).trans hcy⟩)
    clear hng HFN hft hro hrt hk0 hh hog hp2 hx hy en hcx hcy hbn hbn' hu e1 e2 e3 e4 hax hay
    go_upto_region 10 with fail
    have hBd : Below w2.heap.size w2 w2.drew := below_drew (Below.refl _ _)
    have hBa : Below w2.heap.size w2 (w2.alloc (.cells #[.int .i64 x.as_] 3)).drew := below_drew ((Below.refl _ _).alloc (Nat.le_refl _) _)
    have hOa : Own (w2.alloc (.cells #[.int .i64 x.as_] 3)).drew w2.heap.size 3 1 (some ⟨w2.heap.size, 0, none⟩) 1 1 [.int .i64 x.as_] := (own_one _ _).drew
    have hRa := (P2.out.call hBa).pr.rt.1
    have hsa : w2.heap.size ≤ (w2.alloc (.cells #[.int .i64 x.as_] 3)).drew.heap.size := hBa.size
    clear b0 b1 b2 g0 g1 g2 g3 g4 g5 g6 r0 r1 r2 f0 f1 f2
    refine wp_region_held_drew (S := (fun wy => (wy.cell? ⟨w.heap.size, 1, none⟩ = some (.int .i64 p.cap) ∧ wy.cell? ⟨w.heap.size, 3, none⟩ = some (.slice (some ⟨bn, on, none⟩) p.nodes.length h.cn)) ∧ wy.cell? ⟨w.heap.size + 1, 2, none⟩ = some (.slice A r.path.length c) ∧ wy.cell? ⟨bn, on + u * 2 + 1, none⟩ = some (.int .i64 x.as_) ∧ wy.cell? ⟨bn, on + n * 2 + 1, none⟩ = some (.int .i64 y.as_))) (by kernel_rfl) (HC.out _ hBd) (fun hHeld0 => ?_)
    refine take_list (i := 0) (v := ?_) rfl (by kernel_rfl) (by kernel_rfl) (by kernel_rfl) (fun _ _ _ h => h) (Or.inl ⟨by rfl, ?_⟩) (by assumption) ?_
    rotate_left
    · (intro w hSw; (try dsimp only at hSw); go_simp; try (with_reducible rfl))
    try simp only [Act.put, List.setIfInBounds_toArray, List.set_cons_zero, List.set_cons_succ]
    refine take_list (i := 1) (v := ?_) rfl (by kernel_rfl) (by kernel_rfl) (by kernel_rfl) (fun _ _ _ h => h) (Or.inl ⟨by rfl, ?_⟩) (by assumption) ?_
    rotate_left
    · (intro w hSw; (try dsimp only at hSw); go_simp; try (with_reducible rfl))
    try simp only [Act.put, List.setIfInBounds_toArray, List.set_cons_zero, List.set_cons_succ]
    refine take_list (i := 2) (v := ?_) rfl (by kernel_rfl) (by kernel_rfl) (by kernel_rfl) (fun _ _ _ h => h) (Or.inl ⟨by rfl, ?_⟩) (by assumption) ?_
    rotate_left
    · (intro w hSw; (try dsimp only at hSw); go_simp; try (with_reducible rfl))
    try simp only [Act.put, List.setIfInBounds_toArray, List.set_cons_zero, List.set_cons_succ]
    refine take_list (i := 3) (v := ?_) rfl (by kernel_rfl) (by kernel_rfl) (by kernel_rfl) (fun _ _ _ h => h) (Or.inl ⟨by rfl, ?_⟩) (by assumption) ?_
    rotate_left
    · (intro w hSw; (try dsimp only at hSw); go_simp; try (with_reducible rfl))
    try simp only [Act.put, List.setIfInBounds_toArray, List.set_cons_zero, List.set_cons_succ]
    refine take_list (i := 4) (v := ?_) rfl (by kernel_rfl) (by kernel_rfl) (by kernel_rfl) (fun _ _ _ h => h) (Or.inl ⟨by rfl, ?_⟩) (by assumption) ?_
    rotate_left
    · (intro w hSw; (try dsimp only at hSw); go_simp; try (with_reducible rfl))
    try simp only [Act.put, List.setIfInBounds_toArray, List.set_cons_zero, List.set_cons_succ]
    refine take_list (i := 5) (v := ?_) rfl (by kernel_rfl) (by kernel_rfl) (by kernel_rfl) (fun _ _ _ h => h) (Or.inl ⟨by rfl, ?_⟩) (by assumption) ?_
    rotate_left
    · (intro w hSw; (try dsimp only at hSw); go_simp; try (with_reducible rfl))
    try simp only [Act.put, List.setIfInBounds_toArray, List.set_cons_zero, List.set_cons_succ]
    refine take_list (i := 7) (v := ?_) rfl (by kernel_rfl) (by kernel_rfl) (by kernel_rfl) (fun _ _ _ h => h) (Or.inl ⟨by rfl, ?_⟩) (by assumption) ?_
    rotate_left
    · (intro w hSw; (try dsimp only at hSw); go_simp; try (with_reducible rfl))
    try simp only [Act.put, List.setIfInBounds_toArray, List.set_cons_zero, List.set_cons_succ]
    refine take_list (i := 8) (v := ?_) rfl (by kernel_rfl) (by kernel_rfl) (by kernel_rfl) (fun _ _ _ h => h) (Or.inl ⟨by rfl, ?_⟩) (by assumption) ?_
    rotate_left
    · (intro w hSw; (try dsimp only at hSw); go_simp; try (with_reducible rfl))
    try simp only [Act.put, List.setIfInBounds_toArray, List.set_cons_zero, List.set_cons_succ]
    refine wpAnyH_ready (rs := [6]) (by kernel_rfl) (by simp) ?_
    refine cons_list rfl (fun K hK => ?_) AllReadyH.nil
    go_simp
    refine hK.out _ _ (HC.out _ (by first | exact hB5 | exact hBa)) (fun hHeld1 => ?_)
    clear hK K hHeld0
    try simp only [Act.put, List.setIfInBounds_toArray, List.set_cons_zero, List.set_cons_succ]
    refine wpAnyH_ready (rs := [9]) (by kernel_rfl) (by simp) ?_
    refine cons_list rfl (fun K hK => ?_) AllReadyH.nil
    (refine step_app _ (by rfl) _ _ 22 (by rfl) w2.heap.size 3 i0 _ 1 8 Tryz.underlying22 hi0 hz0 hs0 hb0 rfl (by decide) _ _ _ [.int .i64 x.as_] (by rfl) hOa _ r.path.length _ (ints r.path) (by rfl) hRa (by intro v hv; simp [ints] at hv; obtain ⟨z, _, rfl⟩ := hv; rfl) (by unfold maxLen; omega) (by omega) hsa ?_; intro A2 c2 w5 hown2 hgrow2 hblk2 _; have hB5 : Below w2.heap.size w2 w5 := hBa.grown hgrow2 hsa (by intro g hg; simp [blk] at hg; omega))
    refine hK.out _ _ (HC.out _ (by first | exact hB5 | exact hBa)) (fun hHeld2 => ?_)
    clear hK K hHeld1
    try simp only [Act.put, List.setIfInBounds_toArray, List.set_cons_zero, List.set_cons_succ]
    refine take_list (i := 10) (v := ?_) rfl (by kernel_rfl) (by kernel_rfl) (by kernel_rfl) (fun _ _ _ h => h) (Or.inl ⟨by rfl, ?_⟩) (by assumption) ?_
    rotate_left
    · (intro w hSw; (try dsimp only at hSw); go_simp; try (with_reducible rfl))
    try simp only [Act.put, List.setIfInBounds_toArray, List.set_cons_zero, List.set_cons_succ]
    refine wpAnyH_done (by kernel_rfl) ?_ _
    clear hHeld2
    have P5 := Lib.hid (P2.out.call hB5)
    have hown3 : Own w5 w2.heap.size 3 1 A2 (x.as_ :: r.path).length c2 (ints (x.as_ :: r.path)) := by
      have e : (x.as_ :: r.path).length = 1 + r.path.length := by simp; omega
      rw [e]; exact hown2
    have hlen : 1 + r.path.length = (x.as_ :: r.path).length := by simp; omega
    rw [hlen]
    have hq13 : (x.as_ :: r.path).length ≤ 13 := by simp; omega
    generalize x.as_ :: r.path = q at *
    have OQ := Lib.hid hown3
    obtain ⟨⟨d1, d3⟩, -, -, d5⟩ := HC.out _ hB5
    have hwz := P2.out.pr.below.size
    have hbl2 : w.heap.size + 3 ≤ w2.heap.size := by have := lt_heap P2.out.res; omega
    have HNO : Hid (¬ ((q.length : Int) ≤ p.cap ∧ y.as_ ∉ q) → ∀ w6, PR3 w w6 p h r A c → OrPost (overG p k n r) w (.returned (.agg #[.int .i64 0, .int .i64 0, .slice none 0 0])) (((w6.setCell ⟨w.heap.size + 2, 0, none⟩ (.int .i64 0)).setCell ⟨w.heap.size + 2, 1, none⟩ (.int .i64 0)).setCell ⟨w.heap.size + 2, 2, none⟩ (.slice none 0 0))) := Lib.hid (fun hc w6 a => by
      rw [HV.out, if_neg hc]
      exact ⟨none, 0, rfl, .inr ⟨rfl, Nat.zero_le _⟩, (a.put _ _ _).1⟩)
    clear hBd hBa hOa hRa hsa hown2 hgrow2 hblk2 hown3 hlen hB5
    by_cases hcap : (q.length : Int) ≤ p.cap
    rotate_left
    · obtain ⟨hfin, ⟨r0, r1, r2⟩, ⟨f0, f1, f2⟩⟩ := P5.out.put (.int .i64 0) (.int .i64 0) (.slice none 0 0)
      have HF := Lib.hid (HNO.out (fun h => hcap h.1) _ P5.out)
      have hdc : decide (p.cap < (q.length : Int)) = true := decide_eq_true (by omega)
      clear hfin hcap
      go_wp2
      exact bodyPost_ret (v := .agg #[.int .i64 0, .int .i64 0, .slice none 0 0]) (by simp [results, Tryz.results53, go_sem, r0, r1, r2]) rfl HF.out
    have hdc : decide (p.cap < (q.length : Int)) = false := decide_eq_false (by omega)
    have HCAP := Lib.hid hcap
    clear hcap
    go_wp2_with fail
    refine (rin_any q y.as_ A2 c2 _ OQ.out.rd (by omega)).mono ?_
    rintro e w6 ⟨rfl, hb6⟩
    have P6 := Lib.hid (P5.out.call hb6)
    have O6 := Lib.hid (OQ.out.call hb6)
    clear hb6 d1 d3 d5
    by_cases hin : y.as_ ∈ q
    · obtain ⟨hfin, ⟨r0, r1, r2⟩, ⟨f0, f1, f2⟩⟩ := P6.out.put (.int .i64 0) (.int .i64 0) (.slice none 0 0)
      have HF := Lib.hid (HNO.out (fun h => h.2 hin) _ P6.out)
      rw [show decide (y.as_ ∈ q) = true from decide_eq_true hin]
      clear hfin hin
      go_wp2
      exact bodyPost_ret (v := .agg #[.int .i64 0, .int .i64 0, .slice none 0 0]) (by simp [results, Tryz.results53, go_sem, r0, r1, r2]) rfl HF.out
    · obtain ⟨hfin, ⟨r0, r1, r2⟩, ⟨f0, f1, f2⟩⟩ := P6.out.put (.int .i64 2) (.int .i64 0) (.slice A2 q.length c2)
      have HF : Hid (OrPost (overG p k n r) w (.returned (.agg #[.int .i64 2, .int .i64 0, .slice A2 q.length c2])) (((w6.setCell ⟨w.heap.size + 2, 0, none⟩ (.int .i64 2)).setCell ⟨w.heap.size + 2, 1, none⟩ (.int .i64 0)).setCell ⟨w.heap.size + 2, 2, none⟩ (.slice A2 q.length c2))) := Lib.hid (by
        rw [HV.out, if_pos ⟨HCAP.out, hin⟩]
        refine ⟨A2, c2, rfl, .inl ?_, hfin⟩
        have h1 := O6.out
        refine Own.more ?_ (show w.heap.size ≤ w2.heap.size from hwz)
        exact ((h1.setCell_far (p := ⟨w.heap.size + 2, 0, none⟩) (fun g hg => by have := h1.from_ g hg; show g ≠ w.heap.size + 2; omega) _).setCell_far (p := ⟨w.heap.size + 2, 1, none⟩) (fun g hg => by have := h1.from_ g hg; show g ≠ w.heap.size + 2; omega) _).setCell_far (p := ⟨w.heap.size + 2, 2, none⟩) (fun g hg => by have := h1.from_ g hg; show g ≠ w.heap.size + 2; omega) _)
      rw [show decide (y.as_ ∈ q) = false from decide_eq_false hin]
      clear hfin hin
      go_wp2
      exact bodyPost_ret (v := .agg #[.int .i64 2, .int .i64 0, .slice A2 q.length c2]) (by simp [results, Tryz.results53, go_sem, r0, r1, r2]) rfl HF.out
end Go.Proofs.YtakolnmoieiicaaGreat

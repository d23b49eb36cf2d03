/- The document's own answer of layer 9, Fits, at any network that is small (it may be wrong), and any routes. The program's round.Fits at any network that is small (it may be wrong), and any routes. -/
import Derived.Test.YtakolnmoieiicaaGreatRef7v
import Derived.Test.YtakolnmoieiicaaGreatRef3r
import Derived.Test.YtakolnmoieiicaaGreatRoundW
import Derived.Test.YtakolnmoieiicaaGreatRegs
import Derived.Test.YtakolnmoieiicaaGreatBadC
import Derived.Test.YtakolnmoieiicaaGreatRight
namespace Go.Proofs.YtakolnmoieiicaaGreat
set_option linter.unusedSimpArgs false
set_option linter.unusedVariables false
open Go.RowKit

section
/-- What Fits asks, of any network. -/
structure FitsQ (p : Net) (l : List Rt) : Prop where
  right : rightB p = true
  len : l.length = p.nodes.length
  each : ∀ (j : Nat) (r : Rt), l[j]? = some r → rfitsG p j r = true
attribute [local go_sem ↓] Go.wp_at_zero Go.wp_at_succ
set_option maxRecDepth 100000 in
set_option maxHeartbeats 4000000 in
theorem rfits9_any (p : Net) (h : Hd) (Z : List RtZ) (A : Option Addr) (c : Nat) (w : World) (hp : NetR w w.heap.size p h) (hs : Small p) (hl : RtsR w w.heap.size Z A) :
    Calls Tryz.prog 27 #[netV p h, .slice A Z.length c] w fun e w' => ∃ b : Bool, e = .returned (.bool b) ∧ (b = true ↔ FitsQ p (Z.map (·.1))) ∧ Below w.heap.size w w' := by
  have PX := Lib.hid (AtRight.begin hp)
  have HS := Lib.hid hs
  have HL := Lib.hid hl
  have hn12 := hs.nodes
  clear hp hs hl
  unfold netV netVal
  go_enter Tryz.func27, Tryz.ntmps27
  go_wp2_with fail
  refine (rright_any p h _ PX.out.net HS.out).mono ?_
  rintro e w1 ⟨rfl, hb1⟩
  have P1 := Lib.hid (PX.out.call hb1)
  clear hb1 PX
  cases hr : rightB p with
  | false =>
    have HF : Hid (∃ b : Bool, Ending.returned (Value.bool false) = .returned (.bool b) ∧ (b = true ↔ FitsQ p (Z.map (·.1))) ∧ Below w.heap.size w w1) := Lib.hid ⟨false, rfl, (by simp; intro q; have := q.right; rw [hr] at this; cases this), P1.out.below⟩
    clear hr
    go_wp2
    go_ret
    exact HF.out
  | true =>
  have HR := Lib.hid hr
  clear hr
  obtain ⟨c0, c1, c2, c3, c4, c5, c6⟩ := P1.out.all
  by_cases hq : Z.length = p.nodes.length
  rotate_left
  · have hq' : ((Z.length : Int) != (p.nodes.length : Int)) = true := by simp; omega
    have HF : Hid (∃ b : Bool, Ending.returned (Value.bool false) = .returned (.bool b) ∧ (b = true ↔ FitsQ p (Z.map (·.1))) ∧ Below w.heap.size w w1) := Lib.hid ⟨false, rfl, (by simp; intro q; exact hq (by simpa using q.len)), P1.out.below⟩
    clear hq
    go_wp2
    go_ret
    exact HF.out
  have hq' : ((Z.length : Int) != (p.nodes.length : Int)) = false := by simp [hq]
  have HQ := Lib.hid hq
  have hz12 : Z.length ≤ 1000 := by omega
  clear hq
  go_wp2_with fail
  go_loopw [6] (fun si wx => ∃ (k : Nat), k ≤ Z.length ∧ si = .int .i64 k ∧ (∀ j < k, ∀ r, (Z.map (·.1))[j]? = some r → rfitsG p j r = true) ∧ Below w1.heap.size w1 wx) (fun si _ => Z.length - (intOf si).toNat)
  case atStart => exact ⟨0, Nat.zero_le _, rfl, by intro j hj; omega, Below.refl _ _⟩
  case round =>
    obtain ⟨k, hk, rfl, hall, hB⟩ := hrel
    have BX := Lib.hid hB
    have HALL := Lib.hid hall
    have P2 := Lib.hid (P1.out.call hB)
    clear hB hall c0 c1 c2 c3 c4 c5 c6
    by_cases hlt : k < Z.length
    · obtain ⟨z, hz⟩ : ∃ z, Z[k]? = some z := ⟨_, List.getElem?_eq_getElem hlt⟩
      have hz1 : (Z.map (·.1))[k]? = some z.1 := by rw [List.getElem?_map, hz]; rfl
      have HZ1 := Lib.hid hz1
      have L2 := Lib.hid ((HL.out.below P2.out.below (Nat.le_refl _)).more P2.out.below.size)
      obtain ⟨b, o, hA, hb, z0, z1, z2⟩ := L2.out.at_ hz
      subst hA
      have RZ := Lib.hid (L2.out.each z (List.mem_of_getElem? hz))
      have HC : Hid (∀ wy, Below wr.heap.size wr wy → (wy.cell? ⟨w.heap.size, 0, none⟩ = some (.int .i64 p.proto) ∧ wy.cell? ⟨w.heap.size, 1, none⟩ = some (.int .i64 p.cap) ∧ wy.cell? ⟨w.heap.size, 2, none⟩ = some (.int .i64 p.k) ∧ wy.cell? ⟨w.heap.size, 3, none⟩ = some (.slice h.an p.nodes.length h.cn) ∧ wy.cell? ⟨w.heap.size, 4, none⟩ = some (.slice h.al p.links.length h.cl) ∧ wy.cell? ⟨w.heap.size, 5, none⟩ = some (.slice h.ad p.dests.length h.cd) ∧ wy.cell? ⟨w.heap.size, 6, none⟩ = some (.slice h.ac p.checks.length h.cc)) ∧ wy.cell? ⟨b, o + k * 3, none⟩ = some (.int .i64 z.1.kind) ∧ wy.cell? ⟨b, o + k * 3 + 1, none⟩ = some (.int .i64 z.1.cost) ∧ wy.cell? ⟨b, o + k * 3 + 2, none⟩ = some (.slice z.2.1 z.1.path.length z.2.2)) := Lib.hid (fun wy hb' => ⟨(P2.out.call hb').all, (hb'.cell (p := ⟨b, _, none⟩) hb).trans z0, (hb'.cell (p := ⟨b, _, none⟩) hb).trans z1, (hb'.cell (p := ⟨b, _, none⟩) hb).trans z2⟩)
      have CF : Hid (∀ wy, Below wr.heap.size wr wy → Calls Tryz.prog 56 #[.agg #[.int .i64 p.proto, .int .i64 p.cap, .int .i64 p.k, .slice h.an p.nodes.length h.cn, .slice h.al p.links.length h.cl, .slice h.ad p.dests.length h.cd, .slice h.ac p.checks.length h.cc], .int .i64 (k : Int), .agg #[.int .i64 z.1.kind, .int .i64 z.1.cost, .slice z.2.1 z.1.path.length z.2.2]] wy fun e w' => e = .returned (.bool (rfitsG p k z.1)) ∧ Below wr.heap.size wr w') := Lib.hid (fun wy hb' =>
        (rfits_any p h k z.1 z.2.1 z.2.2 wy (P2.out.call hb').net HS.out (RZ.out.call hb')).mono fun e w' ⟨h1, h2⟩ => ⟨h1, since_trans hb' h2⟩)
      have hk0 : (0 : Int) ≤ (k : Int) := by omega
      have hk1 : (k : Int) < (Z.length : Int) := by omega
      have HK := Lib.hid hlt
      have hb0 : Below wr.heap.size wr wr.drew := below_drew (Below.refl _ _)
      clear hz hz1 z0 z1 z2 hb hlt
      cases hf : rfitsG p k z.1 with
      | true =>
        have HF := Lib.hid hf
        rw [hf] at CF
        clear hf
        go_upto_region 7 with fail
        refine wp_region_held_drew (S := (fun wy => (wy.cell? ⟨w.heap.size, 0, none⟩ = some (.int .i64 p.proto) ∧ wy.cell? ⟨w.heap.size, 1, none⟩ = some (.int .i64 p.cap) ∧ wy.cell? ⟨w.heap.size, 2, none⟩ = some (.int .i64 p.k) ∧ wy.cell? ⟨w.heap.size, 3, none⟩ = some (.slice h.an p.nodes.length h.cn) ∧ wy.cell? ⟨w.heap.size, 4, none⟩ = some (.slice h.al p.links.length h.cl) ∧ wy.cell? ⟨w.heap.size, 5, none⟩ = some (.slice h.ad p.dests.length h.cd) ∧ wy.cell? ⟨w.heap.size, 6, none⟩ = some (.slice h.ac p.checks.length h.cc)) ∧ wy.cell? ⟨b, o + k * 3, none⟩ = some (.int .i64 z.1.kind) ∧ wy.cell? ⟨b, o + k * 3 + 1, none⟩ = some (.int .i64 z.1.cost) ∧ wy.cell? ⟨b, o + k * 3 + 2, none⟩ = some (.slice z.2.1 z.1.path.length z.2.2))) (by kernel_rfl) (HC.out _ hb0) (fun hHeld0 => ?_)
        refine take_list (i := 0) (v := ?_) rfl (by kernel_rfl) (by kernel_rfl) (by kernel_rfl) (fun _ _ _ h => h) (Or.inl ⟨by rfl, ?_⟩) (by assumption) ?_
        rotate_left
        · (intro w hSw; (try dsimp only at hSw); go_simp; try (with_reducible rfl))
        try simp only [Act.put, List.setIfInBounds_toArray, List.set_cons_zero, List.set_cons_succ]
        refine take_list (i := 1) (v := ?_) rfl (by kernel_rfl) (by kernel_rfl) (by kernel_rfl) (fun _ _ _ h => h) (Or.inl ⟨by rfl, ?_⟩) (by assumption) ?_
        rotate_left
        · (intro w hSw; (try dsimp only at hSw); go_simp; try (with_reducible rfl))
        try simp only [Act.put, List.setIfInBounds_toArray, List.set_cons_zero, List.set_cons_succ]
        refine take_list (i := 2) (v := ?_) rfl (by kernel_rfl) (by kernel_rfl) (by kernel_rfl) (fun _ _ _ h => h) (Or.inl ⟨by rfl, ?_⟩) (by assumption) ?_
        rotate_left
        · (intro w hSw; (try dsimp only at hSw); go_simp; try (with_reducible rfl))
        try simp only [Act.put, List.setIfInBounds_toArray, List.set_cons_zero, List.set_cons_succ]
        refine take_list (i := 3) (v := ?_) rfl (by kernel_rfl) (by kernel_rfl) (by kernel_rfl) (fun _ _ _ h => h) (Or.inl ⟨by rfl, ?_⟩) (by assumption) ?_
        rotate_left
        · (intro w hSw; (try dsimp only at hSw); go_simp; try (with_reducible rfl))
        try simp only [Act.put, List.setIfInBounds_toArray, List.set_cons_zero, List.set_cons_succ]
        refine take_list (i := 4) (v := ?_) rfl (by kernel_rfl) (by kernel_rfl) (by kernel_rfl) (fun _ _ _ h => h) (Or.inl ⟨by rfl, ?_⟩) (by assumption) ?_
        rotate_left
        · (intro w hSw; (try dsimp only at hSw); go_simp; try (with_reducible rfl))
        try simp only [Act.put, List.setIfInBounds_toArray, List.set_cons_zero, List.set_cons_succ]
        refine take_list (i := 5) (v := ?_) rfl (by kernel_rfl) (by kernel_rfl) (by kernel_rfl) (fun _ _ _ h => h) (Or.inl ⟨by rfl, ?_⟩) (by assumption) ?_
        rotate_left
        · (intro w hSw; (try dsimp only at hSw); go_simp; try (with_reducible rfl))
        try simp only [Act.put, List.setIfInBounds_toArray, List.set_cons_zero, List.set_cons_succ]
        refine wpAnyH_ready (rs := [6]) (by kernel_rfl) (by simp) ?_
        refine cons_list rfl (fun K hK => ?_) AllReadyH.nil
        go_simp
        (go_at_call 56; refine (CF.out _ hb0).mono ?_; rintro e wq ⟨rfl, hb1⟩)
        refine hK.out _ _ (HC.out _ (by assumption)) (fun hHeld1 => ?_)
        clear hK K hHeld0
        try simp only [Act.put, List.setIfInBounds_toArray, List.set_cons_zero, List.set_cons_succ]
        refine take_list (i := 7) (v := ?_) rfl (by kernel_rfl) (by kernel_rfl) (by kernel_rfl) (fun _ _ _ h => h) (Or.inl ⟨by rfl, ?_⟩) (by assumption) ?_
        rotate_left
        · (intro w hSw; (try dsimp only at hSw); go_simp; try (with_reducible rfl))
        try simp only [Act.put, List.setIfInBounds_toArray, List.set_cons_zero, List.set_cons_succ]
        refine wpAnyH_done (by kernel_rfl) ?_ _
        clear hHeld1
        have B4 := Lib.hid (since_trans BX.out hb1)
        clear hb1 hb0
        go_wp2_with fail
        go_roundw
        case rel => exact ⟨k + 1, by have := HK.out; omega, by go_num, (fun j hj r hr => by
          by_cases e : j = k
          · subst e; rw [HZ1.out] at hr; cases hr; exact HF.out
          · exact HALL.out j (by omega) r hr), B4.out⟩
        case measure => have := HK.out; simp [intOf]; omega
      | false =>
        have HF : Hid (∀ w', Below wr.heap.size wr w' → ∃ b : Bool, Ending.returned (Value.bool false) = .returned (.bool b) ∧ (b = true ↔ FitsQ p (Z.map (·.1))) ∧ Below w.heap.size w w') := Lib.hid (fun w' hb' => ⟨false, rfl, (by simp; intro q; have := q.each k z.1 HZ1.out; rw [hf] at this; cases this), since_trans P2.out.below hb'⟩)
        rw [hf] at CF
        clear hf
        go_upto_region 7 with fail
        refine wp_region_held_drew (S := (fun wy => (wy.cell? ⟨w.heap.size, 0, none⟩ = some (.int .i64 p.proto) ∧ wy.cell? ⟨w.heap.size, 1, none⟩ = some (.int .i64 p.cap) ∧ wy.cell? ⟨w.heap.size, 2, none⟩ = some (.int .i64 p.k) ∧ wy.cell? ⟨w.heap.size, 3, none⟩ = some (.slice h.an p.nodes.length h.cn) ∧ wy.cell? ⟨w.heap.size, 4, none⟩ = some (.slice h.al p.links.length h.cl) ∧ wy.cell? ⟨w.heap.size, 5, none⟩ = some (.slice h.ad p.dests.length h.cd) ∧ wy.cell? ⟨w.heap.size, 6, none⟩ = some (.slice h.ac p.checks.length h.cc)) ∧ wy.cell? ⟨b, o + k * 3, none⟩ = some (.int .i64 z.1.kind) ∧ wy.cell? ⟨b, o + k * 3 + 1, none⟩ = some (.int .i64 z.1.cost) ∧ wy.cell? ⟨b, o + k * 3 + 2, none⟩ = some (.slice z.2.1 z.1.path.length z.2.2))) (by kernel_rfl) (HC.out _ hb0) (fun hHeld0 => ?_)
        refine take_list (i := 0) (v := ?_) rfl (by kernel_rfl) (by kernel_rfl) (by kernel_rfl) (fun _ _ _ h => h) (Or.inl ⟨by rfl, ?_⟩) (by assumption) ?_
        rotate_left
        · (intro w hSw; (try dsimp only at hSw); go_simp; try (with_reducible rfl))
        try simp only [Act.put, List.setIfInBounds_toArray, List.set_cons_zero, List.set_cons_succ]
        refine take_list (i := 1) (v := ?_) rfl (by kernel_rfl) (by kernel_rfl) (by kernel_rfl) (fun _ _ _ h => h) (Or.inl ⟨by rfl, ?_⟩) (by assumption) ?_
        rotate_left
        · (intro w hSw; (try dsimp only at hSw); go_simp; try (with_reducible rfl))
        try simp only [Act.put, List.setIfInBounds_toArray, List.set_cons_zero, List.set_cons_succ]
        refine take_list (i := 2) (v := ?_) rfl (by kernel_rfl) (by kernel_rfl) (by kernel_rfl) (fun _ _ _ h => h) (Or.inl ⟨by rfl, ?_⟩) (by assumption) ?_
        rotate_left
        · (intro w hSw; (try dsimp only at hSw); go_simp; try (with_reducible rfl))
        try simp only [Act.put, List.setIfInBounds_toArray, List.set_cons_zero, List.set_cons_succ]
        refine take_list (i := 3) (v := ?_) rfl (by kernel_rfl) (by kernel_rfl) (by kernel_rfl) (fun _ _ _ h => h) (Or.inl ⟨by rfl, ?_⟩) (by assumption) ?_
        rotate_left
        · (intro w hSw; (try dsimp only at hSw); go_simp; try (with_reducible rfl))
        try simp only [Act.put, List.setIfInBounds_toArray, List.set_cons_zero, List.set_cons_succ]
        refine take_list (i := 4) (v := ?_) rfl (by kernel_rfl) (by kernel_rfl) (by kernel_rfl) (fun _ _ _ h => h) (Or.inl ⟨by rfl, ?_⟩) (by assumption) ?_
        rotate_left
        · (intro w hSw; (try dsimp only at hSw); go_simp; try (with_reducible rfl))
        try simp only [Act.put, List.setIfInBounds_toArray, List.set_cons_zero, List.set_cons_succ]
        refine take_list (i := 5) (v := ?_) rfl (by kernel_rfl) (by kernel_rfl) (by kernel_rfl) (fun _ _ _ h => h) (Or.inl ⟨by rfl, ?_⟩) (by assumption) ?_
        rotate_left
        · (intro w hSw; (try dsimp only at hSw); go_simp; try (with_reducible rfl))
        try simp only [Act.put, List.setIfInBounds_toArray, List.set_cons_zero, List.set_cons_succ]
        refine wpAnyH_ready (rs := [6]) (by kernel_rfl) (by simp) ?_
        refine cons_list rfl (fun K hK => ?_) AllReadyH.nil
        go_simp
        (go_at_call 56; refine (CF.out _ hb0).mono ?_; rintro e wq ⟨rfl, hb1⟩)
        refine hK.out _ _ (HC.out _ (by assumption)) (fun hHeld1 => ?_)
        clear hK K hHeld0
        try simp only [Act.put, List.setIfInBounds_toArray, List.set_cons_zero, List.set_cons_succ]
        refine take_list (i := 7) (v := ?_) rfl (by kernel_rfl) (by kernel_rfl) (by kernel_rfl) (fun _ _ _ h => h) (Or.inl ⟨by rfl, ?_⟩) (by assumption) ?_
        rotate_left
        · (intro w hSw; (try dsimp only at hSw); go_simp; try (with_reducible rfl))
        try simp only [Act.put, List.setIfInBounds_toArray, List.set_cons_zero, List.set_cons_succ]
        refine wpAnyH_done (by kernel_rfl) ?_ _
        clear hHeld1
        go_wp2_with fail
        go_ret
        exact HF.out _ hb1
    · have hge : (Z.length : Int) ≤ (k : Int) := by omega
      have HF : Hid (∃ b : Bool, Ending.returned (Value.bool true) = .returned (.bool b) ∧ (b = true ↔ FitsQ p (Z.map (·.1))) ∧ Below w.heap.size w wr) := Lib.hid ⟨true, rfl, by
        simp only [true_iff]
        exact ⟨HR.out, by rw [List.length_map]; exact HQ.out, fun j r hr => HALL.out j (by have := (List.getElem?_eq_some_iff.1 hr).1; rw [List.length_map] at this; omega) r hr⟩, P2.out.below⟩
      clear hlt
      go_wp2_with fail
      go_ret
      exact HF.out
end

section
set_option maxRecDepth 100000 in
set_option maxHeartbeats 4000000 in
theorem fits9_gen (p : Net) (h : Hd) (Z : List RtZ) (A : Option Addr) (c : Nat) (w : World) (hp : NetR w w.heap.size p h) (hs : Small p) (hl : RtsR w w.heap.size Z A) :
    Calls Tryz.prog 46 #[netV p h, .slice A Z.length c] w fun e w' => ∃ b : Bool, e = .returned (.bool b) ∧ (b = true ↔ FitsQ p (Z.map (·.1))) ∧ Below w.heap.size w w' := by
  have PX := Lib.hid (AtRight.begin hp)
  have HS := Lib.hid hs
  have HL := Lib.hid hl
  have hn12 := hs.nodes
  clear hp hs hl
  unfold netV netVal
  go_enter Tryz.func46, Tryz.ntmps46
  go_wp2_with fail
  refine (right_gen p h _ PX.out.net HS.out).mono ?_
  rintro e w1 ⟨rfl, hb1⟩
  have P1 := Lib.hid (PX.out.call hb1)
  clear hb1 PX
  cases hr : rightB p with
  | false =>
    have HF : Hid (∃ b : Bool, Ending.returned (Value.bool false) = .returned (.bool b) ∧ (b = true ↔ FitsQ p (Z.map (·.1))) ∧ Below w.heap.size w w1) := Lib.hid ⟨false, rfl, (by simp; intro q; have := q.right; rw [hr] at this; cases this), P1.out.below⟩
    clear hr
    go_wp2
    go_ret
    exact HF.out
  | true =>
  have HR := Lib.hid hr
  clear hr
  obtain ⟨c0, c1, c2, c3, c4, c5, c6⟩ := P1.out.all
  by_cases hq : Z.length = p.nodes.length
  rotate_left
  · have hq' : ((Z.length : Int) != (p.nodes.length : Int)) = true := by simp; omega
    have HF : Hid (∃ b : Bool, Ending.returned (Value.bool false) = .returned (.bool b) ∧ (b = true ↔ FitsQ p (Z.map (·.1))) ∧ Below w.heap.size w w1) := Lib.hid ⟨false, rfl, (by simp; intro q; exact hq (by simpa using q.len)), P1.out.below⟩
    clear hq
    go_wp2
    go_ret
    exact HF.out
  have hq' : ((Z.length : Int) != (p.nodes.length : Int)) = false := by simp [hq]
  have HQ := Lib.hid hq
  have hz12 : Z.length ≤ 1000 := by omega
  clear hq
  go_wp2_with fail
  go_loopw [20] (fun si wx => ∃ (k : Nat), k ≤ Z.length ∧ si = .int .i64 k ∧ (∀ j < k, ∀ r, (Z.map (·.1))[j]? = some r → rfitsG p j r = true) ∧ Below w1.heap.size w1 wx) (fun si _ => Z.length - (intOf si).toNat)
  case atStart => exact ⟨0, Nat.zero_le _, rfl, by intro j hj; omega, Below.refl _ _⟩
  case round =>
    obtain ⟨k, hk, rfl, hall, hB⟩ := hrel
    have BX := Lib.hid hB
    have HALL := Lib.hid hall
    have P2 := Lib.hid (P1.out.call hB)
    clear hB hall c0 c1 c2 c3 c4 c5 c6
    by_cases hlt : k < Z.length
    · obtain ⟨z, hz⟩ : ∃ z, Z[k]? = some z := ⟨_, List.getElem?_eq_getElem hlt⟩
      have hz1 : (Z.map (·.1))[k]? = some z.1 := by rw [List.getElem?_map, hz]; rfl
      have HZ1 := Lib.hid hz1
      have L2 := Lib.hid ((HL.out.below P2.out.below (Nat.le_refl _)).more P2.out.below.size)
      obtain ⟨b, o, hA, hb, z0, z1, z2⟩ := L2.out.at_ hz
      subst hA
      have RZ := Lib.hid (L2.out.each z (List.mem_of_getElem? hz))
      have hk0 : (0 : Int) ≤ (k : Int) := by omega
      have hk1 : (k : Int) < (Z.length : Int) := by omega
      have HK := Lib.hid hlt
      have P3 := Lib.hid (P2.out.call ((Below.refl _ _).alloc (Nat.le_refl _) (.cells #[.int .i64 z.1.kind, .int .i64 z.1.cost, .slice z.2.1 z.1.path.length z.2.2] 48)))
      obtain ⟨c0, c1, c2, c3, c4, c5, c6⟩ := P3.out.all
      clear hz hz1
      go_wp2_with fail
      refine (fits_gen p h k z.1 z.2.1 z.2.2 _ P3.out.net HS.out ((RZ.out.alloc (Nat.le_refl _) _).more (by simp))).mono ?_
      rintro e w4 ⟨rfl, hb4⟩
      have B4 := Lib.hid (since_trans (since_alloc BX.out _) hb4)
      have B5 := Lib.hid (since_trans P3.out.below hb4)
      clear hb4 c0 c1 c2 c3 c4 c5 c6 z0 z1 z2
      cases hf : rfitsG p k z.1 with
      | true =>
        have HF := Lib.hid hf
        clear hf
        go_wp2
        go_roundw
        case rel => exact ⟨k + 1, by have := HK.out; omega, by go_num, (fun j hj r hr => by
          by_cases e : j = k
          · subst e; rw [HZ1.out] at hr; cases hr; exact HF.out
          · exact HALL.out j (by omega) r hr), B4.out⟩
        case measure => have := HK.out; simp [intOf]; omega
      | false =>
        have HF : Hid (∃ b : Bool, Ending.returned (Value.bool false) = .returned (.bool b) ∧ (b = true ↔ FitsQ p (Z.map (·.1))) ∧ Below w.heap.size w w4) := Lib.hid ⟨false, rfl, (by simp; intro q; have := q.each k z.1 HZ1.out; rw [hf] at this; cases this), B5.out⟩
        clear hf
        go_wp2
        go_ret
        exact HF.out
    · have hge : (Z.length : Int) ≤ (k : Int) := by omega
      have HF : Hid (∃ b : Bool, Ending.returned (Value.bool true) = .returned (.bool b) ∧ (b = true ↔ FitsQ p (Z.map (·.1))) ∧ Below w.heap.size w wr) := Lib.hid ⟨true, rfl, (by
        simp only [true_iff]
        exact ⟨HR.out, by rw [List.length_map]; exact HQ.out, fun j r hr => HALL.out j (by have := (List.getElem?_eq_some_iff.1 hr).1; rw [List.length_map] at this; omega) r hr⟩), P2.out.below⟩
      clear hlt
      go_wp2_with fail
      go_ret
      exact HF.out
end
end Go.Proofs.YtakolnmoieiicaaGreat

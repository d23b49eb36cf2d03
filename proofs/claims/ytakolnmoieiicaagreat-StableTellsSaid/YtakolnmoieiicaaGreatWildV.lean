/- The walk of Wild where a check is added whose limit is told. -/
import Derived.Test.YtakolnmoieiicaaGreatWildW
import Derived.Test.YtakolnmoieiicaaGreatNetB
import Derived.Test.YtakolnmoieiicaaGreatRegs
namespace Go.Proofs.YtakolnmoieiicaaGreat
set_option linter.unusedSimpArgs false
set_option linter.unusedVariables false
open Go.RowKit

attribute [local go_sem ↓] Go.wp_at_zero Go.wp_at_succ
set_option maxRecDepth 100000 in
set_option maxHeartbeats 40000000 in
theorem wild_check (w : World) (A : Option Addr) (l : List Int) (c : Nat) (hl : l.length ≤ maxLen) (hlc : l.length ≤ c) (hr : Rd w w.heap.size 1 A l.length (ints l)) (hi : ∀ x ∈ l, In64 x) (hne : headN l 14 = 11) : Calls Tryz.prog 6 #[.slice A l.length c] w (WildPost w) := by
  unfold maxLen at hl
  obtain ⟨i3, hi3, hz3, hs3, hb3⟩ := info_parts Tryz.info_ds
  obtain ⟨i4, hi4, hz4, hs4, hb4⟩ := info_parts Tryz.info_ck
  obtain ⟨i2, hi2, hz2, hs2, hb2⟩ := info_parts Tryz.info_lk
  have HX := Lib.hid (And.intro hr hi)
  have HN := Lib.hid (net_any (w.alloc (.cells zeroCells 30)) A l c (by unfold maxLen; exact hl) hlc ((hr.alloc (Nat.le_refl _) _).more (by simp)) hi)
  clear hr hi
  unfold zeroCells at HN
  go_enter Tryz.func6, Tryz.ntmps6
  go_wp2_with fail
  refine HN.out.mono ?_
  rintro e w2 ⟨p, h, rfl, hok, hown, hb⟩
  simp only [World.size_alloc] at hown hb
  have hlo := hb.size
  simp only [World.size_alloc] at hlo
  have HB : Hid (Below w.heap.size w w2) := Lib.hid (((Below.refl _ _).alloc (Nat.le_refl _) _).trans (hb.mono (by omega)))
  have HR : Hid (w2.heap[w.heap.size]? = some (.cells zeroCells 30 (0, 0))) := Lib.hid ((hb.block _ (by omega)).trans (heap_alloc_new _ _))
  have HO := Lib.hid hown
  have HK := Lib.hid hok.wsm
  clear hok hown hb HN
  unfold netV netVal
  go_upto_if 13 with fail
  generalize hw3 : (w2.alloc (.cells #[.int .i64 p.proto, .int .i64 p.cap, .int .i64 p.k, .slice h.an p.nodes.length h.cn, .slice h.al p.links.length h.cl, .slice h.ad p.dests.length h.cd, .slice h.ac p.checks.length h.cc] 30)) = w3
  have H3 : Hid (w3 = w2.alloc (.cells (netCells p h) 30)) := Lib.hid hw3.symm
  clear hw3
  go_cut [0] (fun v wx => ∃ (l : List Int) (c : Nat), v = .slice A l.length c ∧ l.length ≤ c ∧ Rd w w.heap.size 1 A l.length (ints l) ∧ (∀ x ∈ l, In64 x) ∧ headN l 14 = 11 ∧ wx = w3)
  case first =>
    by_cases h200 : 200 < l.length
    · have h200' : (200 : Int) < (l.length : Int) := by omega
      obtain ⟨b, o, rfl, hb, hx⟩ := HX.out.1.2 (by omega)
      have h200c : 200 ≤ c := by omega
      clear hx
      go_wp2_with fail
      go_meet
      case rel =>
        refine ⟨l.take 200, c, by rw [List.length_take, Nat.min_eq_left (by omega)], by rw [List.length_take]; omega, ?_, fun x hx => HX.out.2 x (List.mem_of_mem_take hx), by rw [headN_take]; exact hne, rfl⟩
        have := HX.out.1.take (k := 200) (by omega)
        rw [List.length_take, Nat.min_eq_left (by omega)]
        exact this
    · have h200' : (l.length : Int) ≤ 200 := by omega
      go_wp2_with fail
      go_meet
      case rel => exact ⟨l, c, rfl, hlc, HX.out.1, HX.out.2, hne, rfl⟩
  case rest =>
  clear HX hlc hl hne
  obtain ⟨l, c, rfl, hlc, hr, hi, hne', rfl⟩ := hcut
  have hne := Lib.hid hne'
  clear hne'
  go_upto_region 5 with fail
  have W0 : Hid (WS w w2.heap.size wc.heap.size p h (wc.alloc (.cells #[.slice A l.length c] 51))) := Lib.hid (by
    have e := H3.out
    have hb3 : wc.heap[w2.heap.size]? = some (.cells (netCells p h) 30 (0, 0)) := by rw [e]; exact heap_alloc_new _ _
    have hs3 : wc.heap.size = w2.heap.size + 1 := by rw [e]; simp
    refine ⟨?_, ⟨A, l, c, heap_alloc_new _ _, hlc, hi, ?_⟩, ?_, (Below.heap_alloc _ _ _ (lt_heap hb3)).trans hb3, ?_, by omega, by omega⟩
    · rw [e]; exact (HB.out.alloc HB.out.size _).alloc (by have := HB.out.size; simp; omega) _
    · refine hr.below (C := w.heap.size) ?_ (Nat.le_refl _)
      rw [e]; exact (HB.out.alloc HB.out.size _).alloc (by have := HB.out.size; simp; omega) _
    · rw [Below.heap_alloc _ _ _ (by omega), e, Below.heap_alloc _ _ _ (by omega)]; exact HR.out
    · rw [e]; exact (HO.out.allocs _).allocs _)
  have HNX : Hid (Calls Tryz.prog 17 #[.pointer (some ⟨wc.heap.size, 0, none⟩), .int .i64 14] (wc.alloc (.cells #[.slice A l.length c] 51)) fun e w' => e = .returned (.int .i64 (headN l 14 : Nat)) ∧ WS w w2.heap.size wc.heap.size p h w') := Lib.hid (by
    have e := H3.out
    have hs3 : wc.heap.size = w2.heap.size + 1 := by rw [e]; simp
    have hsz := HB.out.size
    refine (next_head w.heap.size wc.heap.size 14 _ A l c (heap_alloc_new _ _) hlc hi ?_ (by omega) (by omega) (by omega)).mono fun e w' ⟨h1, h2, h3⟩ => ⟨h1, W0.out.next h3 h2⟩
    refine hr.below (C := w.heap.size) ?_ (Nat.le_refl _)
    rw [e]; exact (HB.out.alloc HB.out.size _).alloc (by have := HB.out.size; simp; omega) _)
  have hh14 : headN l 14 < 14 := by
    unfold headN
    split
    · omega
    · rename_i x _; have := pickV_in (c := x) (n := 14) (by omega); omega
  generalize headN l 14 = hd at *
  generalize w2.heap.size = bp at *
  generalize (wc.alloc (.cells #[.slice A l.length c] 51)) = w4 at *
  generalize wc.heap.size = bs at *
  clear hr hi hlc H3 HB HR HO hlo
  obtain ⟨n7, n1, l9, d2, c6, -⟩ := HK.out
  go_cut [5] (fun s wx => ∃ m : Nat, s = .int .i64 (m : Int) ∧ m < 14 ∧ m = 11 ∧ WS w bp bs p h wx)
  case first =>
    go_wp2_with fail
    refine HNX.out.mono ?_
    rintro e w5 ⟨rfl, hW⟩
    have HW := Lib.hid hW
    clear hW
    go_wp2_with fail
    go_meet
    case rel => exact ⟨hd, rfl, hh14, hne.out, HW.out⟩
  case rest =>
  clear W0 HNX hh14 hne
  obtain ⟨m, rfl, hm, hmeq', hW⟩ := hcut
  have hmeq := Lib.hid hmeq'
  clear hmeq'
  have W1 := Lib.hid hW
  clear hW
  go_upto_region 6 with fail
  go_cut [6] (fun s wx => ∃ k : Int, s = .int .i64 k ∧ In64 k ∧ WS w bp bs p h wx)
  case first =>
    go_wp2_with (go_at_call 17; refine (wnext (W1.out.alloc _) 8 (by omega) (by omega)).mono ?_; rintro e w5 ⟨k, rfl, hk, hW, hg⟩; obtain ⟨v, hv, hv64⟩ := ks_cell (src_lt W1.out.src) hg hk; (have HW := Lib.hid hW); (have HV := Lib.hid hv64); (have hk0 : (0 : Int) ≤ (k : Int) := by omega); clear hW hg hv64)
    go_meet
    case rel => exact ⟨v, rfl, HV.out, HW.out⟩
  case rest =>
  clear W1
  obtain ⟨kv, rfl, hkv, hW⟩ := hcut
  have HKV := Lib.hid hkv
  have W1 := Lib.hid hW
  clear hW hkv
  go_upto_region 7 with fail
  go_cut [7] (fun s wx => ∃ i : Nat, s = .int .i64 (i : Int) ∧ i < p.nodes.length ∧ WS w bp bs p h wx)
  case first =>
    obtain ⟨-, -, -, c3, -⟩ := W1.out.all
    go_wp2_with (go_at_call 17; refine (wnext W1.out p.nodes.length (by omega) (by omega)).mono ?_; rintro e w5 ⟨k, rfl, hk, hW, -⟩; (have HW := Lib.hid hW); clear hW)
    go_meet
    case rel => exact ⟨k, rfl, by omega, HW.out⟩
  case rest =>
  clear W1
  obtain ⟨i, rfl, hin, hW⟩ := hcut
  have W1 := Lib.hid hW
  clear hW
  go_upto_region 8 with fail
  go_cut [8] (fun s wx => ∃ nm : ByteArray, s = .string nm ∧ WS w bp bs p h wx)
  case first =>
    go_wp2_with (go_at_call 17; refine (wnext (W1.out.alloc _) 7 (by omega) (by omega)).mono ?_; rintro e w5 ⟨k, rfl, hk, hW, hg⟩; obtain ⟨v, hv⟩ := names_cell (src_lt W1.out.src) hg hk; (have HW := Lib.hid hW); (have hk0 : (0 : Int) ≤ (k : Int) := by omega); clear hW hg)
    go_meet
    case rel => exact ⟨v, rfl, HW.out⟩
  case rest =>
  clear W1
  obtain ⟨nm, rfl, hW⟩ := hcut
  have W1 := Lib.hid hW
  clear hW
  go_upto_region 9 with fail
  go_cut [36] (fun s wx => s = .int .i64 (m : Int) ∧ wx = wc)
  case first =>
    go_wp2_with fail
    go_meet
    case rel => exact ⟨rfl, rfl⟩
  case rest =>
  obtain ⟨rfl, hwe⟩ := hcut
  subst hwe
  rename_i hKl
  refine hKl _ _ ?_
  clear hKl
  go_cut [] (fun wx => ∃ (p : Net) (h : Hd), WS w bp bs p h wx ∧ WSm p)
  case first =>
    have SM : Hid (WSm p) := Lib.hid ⟨n7, n1, by omega, by omega, by omega, HK.out.2.2.2.2.2⟩
    obtain rfl : m = 11 := hmeq.out
    have hB : w.heap.size + 1 ≤ wc.heap.size := by have := lt_heap W1.out.box; have := W1.out.lo; omega
    have hd0 := W1.out.drew
    have k0 : wc.drew.cell? ⟨bp, 6, none⟩ = some (.slice h.ac p.checks.length h.cc) := hd0.all.2.2.2.2.2.2
    go_upto_region 33 with fail
    refine wp_region_held_drew (S := (fun _ => True)) (by kernel_rfl) (trivial) (fun hHeld0 => ?_)
    refine take_list (i := 0) (v := ?_) rfl (by kernel_rfl) (by kernel_rfl) (by kernel_rfl) (fun _ _ _ h => h) (Or.inl ⟨by rfl, ?_⟩) (by assumption) ?_
    rotate_left
    · (intro w hSw; (try dsimp only at hSw); go_simp; try (with_reducible rfl))
    try simp only [Act.put, List.setIfInBounds_toArray, List.set_cons_zero, List.set_cons_succ]
    refine take_list (i := 2) (v := ?_) rfl (by kernel_rfl) (by kernel_rfl) (by kernel_rfl) (fun _ _ _ h => h) (Or.inl ⟨by rfl, ?_⟩) (by assumption) ?_
    rotate_left
    · (intro w hSw; (try dsimp only at hSw); go_simp; try (with_reducible rfl))
    try simp only [Act.put, List.setIfInBounds_toArray, List.set_cons_zero, List.set_cons_succ]
    refine take_list (i := 3) (v := ?_) rfl (by kernel_rfl) (by kernel_rfl) (by kernel_rfl) (fun _ _ _ h => h) (Or.inl ⟨by rfl, ?_⟩) (by assumption) ?_
    rotate_left
    · (intro w hSw; (try dsimp only at hSw); go_simp; try (with_reducible rfl))
    try simp only [Act.put, List.setIfInBounds_toArray, List.set_cons_zero, List.set_cons_succ]
    refine take_list (i := 4) (v := ?_) rfl (by kernel_rfl) (by kernel_rfl) (by kernel_rfl) (fun _ _ _ h => h) (Or.inl ⟨by rfl, ?_⟩) (by assumption) ?_
    rotate_left
    · (intro w hSw; (try dsimp only at hSw); go_simp; try (with_reducible rfl))
    try simp only [Act.put, List.setIfInBounds_toArray, List.set_cons_zero, List.set_cons_succ]
    refine take_list (i := 5) (v := ?_) rfl (by kernel_rfl) (by kernel_rfl) (by kernel_rfl) (fun _ _ _ h => h) (Or.inl ⟨by rfl, ?_⟩) (by assumption) ?_
    rotate_left
    · (intro w hSw; (try dsimp only at hSw); go_simp; try (with_reducible rfl))
    try simp only [Act.put, List.setIfInBounds_toArray, List.set_cons_zero, List.set_cons_succ]
    refine take_list (i := 6) (v := ?_) rfl (by kernel_rfl) (by kernel_rfl) (by kernel_rfl) (fun _ _ _ h => h) (Or.inl ⟨by rfl, ?_⟩) (by assumption) ?_
    rotate_left
    · (intro w hSw; (try dsimp only at hSw); go_simp; try (with_reducible rfl))
    try simp only [Act.put, List.setIfInBounds_toArray, List.set_cons_zero, List.set_cons_succ]
    refine take_list (i := 8) (v := ?_) rfl (by kernel_rfl) (by kernel_rfl) (by kernel_rfl) (fun _ _ _ h => h) (Or.inl ⟨by rfl, ?_⟩) (by assumption) ?_
    rotate_left
    · (intro w hSw; (try dsimp only at hSw); go_simp; try (with_reducible rfl))
    try simp only [Act.put, List.setIfInBounds_toArray, List.set_cons_zero, List.set_cons_succ]
    refine wpAnyH_ready (rs := [1, 7]) (by kernel_rfl) (by simp) ?_
    refine cons_list rfl (fun K hK => ?_) (cons_list rfl (fun K hK => ?_) AllReadyH.nil)
    ·
      go_simp
      refine hK.out _ _ (trivial) (fun hHeld1 => ?_)
      clear hK K hHeld0
      try simp only [Act.put, List.setIfInBounds_toArray, List.set_cons_zero, List.set_cons_succ]
      refine wpAnyH_ready (rs := [7]) (by kernel_rfl) (by simp) ?_
      refine cons_list rfl (fun K hK => ?_) AllReadyH.nil
      go_simp
      (go_at_call 17; refine (wnext hd0 2 (by omega) (by omega)).mono ?_; rintro e w5 ⟨k5v, rfl, hk5, hW5, -⟩; have k5 : w5.cell? ⟨bp, 6, none⟩ = some (.slice h.ac p.checks.length h.cc) := hW5.all.2.2.2.2.2.2)
      refine hK.out _ _ (trivial) (fun hHeld2 => ?_)
      clear hK K hHeld1
      try simp only [Act.put, List.setIfInBounds_toArray, List.set_cons_zero, List.set_cons_succ]
      refine wpAnyH_ready (rs := [9]) (by kernel_rfl) (by simp) ?_
      refine cons_list rfl (fun K hK => ?_) AllReadyH.nil
      go_simp
      (go_at_call 17; refine (wnext hW5 2 (by omega) (by omega)).mono ?_; rintro e w6 ⟨k6v, rfl, hk6, hW6, -⟩; have k6 : w6.cell? ⟨bp, 6, none⟩ = some (.slice h.ac p.checks.length h.cc) := hW6.all.2.2.2.2.2.2; have hA := hW6.alloc (.cells (ckCells ⟨IntKind.i64.wrap (1 + Int.tmod (i : Int) 4), kv, 0, k5v, k6v⟩).toArray 62); have kA : (w6.alloc (.cells (ckCells ⟨IntKind.i64.wrap (1 + Int.tmod (i : Int) 4), kv, 0, k5v, k6v⟩).toArray 62)).cell? ⟨bp, 6, none⟩ = some (.slice h.ac p.checks.length h.cc) := hA.all.2.2.2.2.2.2; have hs6 := hW6.below.size; have hs7 := lt_heap hW6.box; have hs8 := hW6.lo; simp only [ckCells] at hA kA)
      refine hK.out _ _ (trivial) (fun hHeld3 => ?_)
      clear hK K hHeld2
      try simp only [Act.put, List.setIfInBounds_toArray, List.set_cons_zero, List.set_cons_succ]
      refine take_list (i := 10) (v := ?_) rfl (by kernel_rfl) (by kernel_rfl) (by kernel_rfl) (fun _ _ _ h => h) (Or.inl ⟨by rfl, ?_⟩) (by assumption) ?_
      rotate_left
      · (intro w hSw; (try dsimp only at hSw); go_simp; try (with_reducible rfl))
      try simp only [Act.put, List.setIfInBounds_toArray, List.set_cons_zero, List.set_cons_succ]
      refine wpAnyH_ready (rs := [11]) (by kernel_rfl) (by simp) ?_
      refine cons_list rfl (fun K hK => ?_) AllReadyH.nil
      go_simp
      refine hK.out _ _ (trivial) (fun hHeld4 => ?_)
      clear hK K hHeld3
      try simp only [Act.put, List.setIfInBounds_toArray, List.set_cons_zero, List.set_cons_succ]
      refine wpAnyH_ready (rs := [12]) (by kernel_rfl) (by simp) ?_
      refine cons_list rfl (fun K hK => ?_) AllReadyH.nil
      (refine step_app _ (by rfl) _ _ 28 (by rfl) (w.heap.size + 1) 62 i4 _ 5 40 Tryz.underlying28 hi4 hz4 hs4 hb4 rfl (by decide) _ _ _ (p.checks.flatMap ckCells) (by rfl) hA.own.checks _ 1 _ (ckCells ⟨IntKind.i64.wrap (1 + Int.tmod (i : Int) 4), kv, 0, k5v, k6v⟩) (by rfl) (Rd.new (by simp) rfl) (by intro u hu; simp [ckCells] at hu; rcases hu with rfl | rfl | rfl | rfl | rfl <;> rfl) (by unfold maxLen; omega) (by omega) (by simp; omega) ?_; intro A2 c2 w9 hown2 hgrow2 hblk2 _; obtain ⟨-, -, k9, -, -, f9⟩ := hA.cells2 hgrow2 (W1.out.own.checks.not_at W1.out.own.zc W1.out.box (by decide)); have W2 := Lib.hid (hA.addCheck (x := ⟨IntKind.i64.wrap (1 + Int.tmod (i : Int) 4), kv, 0, k5v, k6v⟩) rfl hgrow2 hown2))
      refine hK.out _ _ (trivial) (fun hHeld5 => ?_)
      clear hK K hHeld4
      try simp only [Act.put, List.setIfInBounds_toArray, List.set_cons_zero, List.set_cons_succ]
      refine take_list (i := 13) (v := ?_) rfl (by kernel_rfl) (by kernel_rfl) (by kernel_rfl) (fun _ _ _ h => h) (Or.inl ⟨by rfl, ?_⟩) (by assumption) ?_
      rotate_left
      · (intro w hSw; (try dsimp only at hSw); go_simp; try (with_reducible rfl))
      try simp only [Act.put, List.setIfInBounds_toArray, List.set_cons_zero, List.set_cons_succ]
      refine wpAnyH_ready (rs := [14]) (by kernel_rfl) (by simp) ?_
      refine cons_list rfl (fun K hK => ?_) AllReadyH.nil
      go_simp
      refine hK.out _ _ (trivial) (fun hHeld6 => ?_)
      clear hK K hHeld5
      try simp only [Act.put, List.setIfInBounds_toArray, List.set_cons_zero, List.set_cons_succ]
      refine wpAnyH_done (by kernel_rfl) ?_ _
      clear hHeld6
      go_wp2_with fail
      go_meet
      case rel => exact ⟨_, _, W2.out, ⟨SM.out.n, SM.out.n1, SM.out.l, SM.out.d, by simp; omega, SM.out.o⟩⟩
    ·
      go_simp
      (go_at_call 17; refine (wnext hd0 2 (by omega) (by omega)).mono ?_; rintro e w5 ⟨k5v, rfl, hk5, hW5, -⟩; have k5 : w5.cell? ⟨bp, 6, none⟩ = some (.slice h.ac p.checks.length h.cc) := hW5.all.2.2.2.2.2.2)
      refine hK.out _ _ (trivial) (fun hHeld1 => ?_)
      clear hK K hHeld0
      try simp only [Act.put, List.setIfInBounds_toArray, List.set_cons_zero, List.set_cons_succ]
      refine wpAnyH_ready (rs := [1, 9]) (by kernel_rfl) (by simp) ?_
      refine cons_list rfl (fun K hK => ?_) (cons_list rfl (fun K hK => ?_) AllReadyH.nil)
      ·
        go_simp
        refine hK.out _ _ (trivial) (fun hHeld2 => ?_)
        clear hK K hHeld1
        try simp only [Act.put, List.setIfInBounds_toArray, List.set_cons_zero, List.set_cons_succ]
        refine wpAnyH_ready (rs := [9]) (by kernel_rfl) (by simp) ?_
        refine cons_list rfl (fun K hK => ?_) AllReadyH.nil
        go_simp
        (go_at_call 17; refine (wnext hW5 2 (by omega) (by omega)).mono ?_; rintro e w6 ⟨k6v, rfl, hk6, hW6, -⟩; have k6 : w6.cell? ⟨bp, 6, none⟩ = some (.slice h.ac p.checks.length h.cc) := hW6.all.2.2.2.2.2.2; have hA := hW6.alloc (.cells (ckCells ⟨IntKind.i64.wrap (1 + Int.tmod (i : Int) 4), kv, 0, k5v, k6v⟩).toArray 62); have kA : (w6.alloc (.cells (ckCells ⟨IntKind.i64.wrap (1 + Int.tmod (i : Int) 4), kv, 0, k5v, k6v⟩).toArray 62)).cell? ⟨bp, 6, none⟩ = some (.slice h.ac p.checks.length h.cc) := hA.all.2.2.2.2.2.2; have hs6 := hW6.below.size; have hs7 := lt_heap hW6.box; have hs8 := hW6.lo; simp only [ckCells] at hA kA)
        refine hK.out _ _ (trivial) (fun hHeld3 => ?_)
        clear hK K hHeld2
        try simp only [Act.put, List.setIfInBounds_toArray, List.set_cons_zero, List.set_cons_succ]
        refine take_list (i := 10) (v := ?_) rfl (by kernel_rfl) (by kernel_rfl) (by kernel_rfl) (fun _ _ _ h => h) (Or.inl ⟨by rfl, ?_⟩) (by assumption) ?_
        rotate_left
        · (intro w hSw; (try dsimp only at hSw); go_simp; try (with_reducible rfl))
        try simp only [Act.put, List.setIfInBounds_toArray, List.set_cons_zero, List.set_cons_succ]
        refine wpAnyH_ready (rs := [11]) (by kernel_rfl) (by simp) ?_
        refine cons_list rfl (fun K hK => ?_) AllReadyH.nil
        go_simp
        refine hK.out _ _ (trivial) (fun hHeld4 => ?_)
        clear hK K hHeld3
        try simp only [Act.put, List.setIfInBounds_toArray, List.set_cons_zero, List.set_cons_succ]
        refine wpAnyH_ready (rs := [12]) (by kernel_rfl) (by simp) ?_
        refine cons_list rfl (fun K hK => ?_) AllReadyH.nil
        (refine step_app _ (by rfl) _ _ 28 (by rfl) (w.heap.size + 1) 62 i4 _ 5 40 Tryz.underlying28 hi4 hz4 hs4 hb4 rfl (by decide) _ _ _ (p.checks.flatMap ckCells) (by rfl) hA.own.checks _ 1 _ (ckCells ⟨IntKind.i64.wrap (1 + Int.tmod (i : Int) 4), kv, 0, k5v, k6v⟩) (by rfl) (Rd.new (by simp) rfl) (by intro u hu; simp [ckCells] at hu; rcases hu with rfl | rfl | rfl | rfl | rfl <;> rfl) (by unfold maxLen; omega) (by omega) (by simp; omega) ?_; intro A2 c2 w9 hown2 hgrow2 hblk2 _; obtain ⟨-, -, k9, -, -, f9⟩ := hA.cells2 hgrow2 (W1.out.own.checks.not_at W1.out.own.zc W1.out.box (by decide)); have W2 := Lib.hid (hA.addCheck (x := ⟨IntKind.i64.wrap (1 + Int.tmod (i : Int) 4), kv, 0, k5v, k6v⟩) rfl hgrow2 hown2))
        refine hK.out _ _ (trivial) (fun hHeld5 => ?_)
        clear hK K hHeld4
        try simp only [Act.put, List.setIfInBounds_toArray, List.set_cons_zero, List.set_cons_succ]
        refine take_list (i := 13) (v := ?_) rfl (by kernel_rfl) (by kernel_rfl) (by kernel_rfl) (fun _ _ _ h => h) (Or.inl ⟨by rfl, ?_⟩) (by assumption) ?_
        rotate_left
        · (intro w hSw; (try dsimp only at hSw); go_simp; try (with_reducible rfl))
        try simp only [Act.put, List.setIfInBounds_toArray, List.set_cons_zero, List.set_cons_succ]
        refine wpAnyH_ready (rs := [14]) (by kernel_rfl) (by simp) ?_
        refine cons_list rfl (fun K hK => ?_) AllReadyH.nil
        go_simp
        refine hK.out _ _ (trivial) (fun hHeld6 => ?_)
        clear hK K hHeld5
        try simp only [Act.put, List.setIfInBounds_toArray, List.set_cons_zero, List.set_cons_succ]
        refine wpAnyH_done (by kernel_rfl) ?_ _
        clear hHeld6
        go_wp2_with fail
        go_meet
        case rel => exact ⟨_, _, W2.out, ⟨SM.out.n, SM.out.n1, SM.out.l, SM.out.d, by simp; omega, SM.out.o⟩⟩
      ·
        go_simp
        (go_at_call 17; refine (wnext hW5 2 (by omega) (by omega)).mono ?_; rintro e w6 ⟨k6v, rfl, hk6, hW6, -⟩; have k6 : w6.cell? ⟨bp, 6, none⟩ = some (.slice h.ac p.checks.length h.cc) := hW6.all.2.2.2.2.2.2; have hA := hW6.alloc (.cells (ckCells ⟨IntKind.i64.wrap (1 + Int.tmod (i : Int) 4), kv, 0, k5v, k6v⟩).toArray 62); have kA : (w6.alloc (.cells (ckCells ⟨IntKind.i64.wrap (1 + Int.tmod (i : Int) 4), kv, 0, k5v, k6v⟩).toArray 62)).cell? ⟨bp, 6, none⟩ = some (.slice h.ac p.checks.length h.cc) := hA.all.2.2.2.2.2.2; have hs6 := hW6.below.size; have hs7 := lt_heap hW6.box; have hs8 := hW6.lo; simp only [ckCells] at hA kA)
        refine hK.out _ _ (trivial) (fun hHeld2 => ?_)
        clear hK K hHeld1
        try simp only [Act.put, List.setIfInBounds_toArray, List.set_cons_zero, List.set_cons_succ]
        refine take_list (i := 10) (v := ?_) rfl (by kernel_rfl) (by kernel_rfl) (by kernel_rfl) (fun _ _ _ h => h) (Or.inl ⟨by rfl, ?_⟩) (by assumption) ?_
        rotate_left
        · (intro w hSw; (try dsimp only at hSw); go_simp; try (with_reducible rfl))
        try simp only [Act.put, List.setIfInBounds_toArray, List.set_cons_zero, List.set_cons_succ]
        refine wpAnyH_ready (rs := [1, 11]) (by kernel_rfl) (by simp) ?_
        refine cons_list rfl (fun K hK => ?_) (cons_list rfl (fun K hK => ?_) AllReadyH.nil)
        ·
          go_simp
          refine hK.out _ _ (trivial) (fun hHeld3 => ?_)
          clear hK K hHeld2
          try simp only [Act.put, List.setIfInBounds_toArray, List.set_cons_zero, List.set_cons_succ]
          refine wpAnyH_ready (rs := [11]) (by kernel_rfl) (by simp) ?_
          refine cons_list rfl (fun K hK => ?_) AllReadyH.nil
          go_simp
          refine hK.out _ _ (trivial) (fun hHeld4 => ?_)
          clear hK K hHeld3
          try simp only [Act.put, List.setIfInBounds_toArray, List.set_cons_zero, List.set_cons_succ]
          refine wpAnyH_ready (rs := [12]) (by kernel_rfl) (by simp) ?_
          refine cons_list rfl (fun K hK => ?_) AllReadyH.nil
          (refine step_app _ (by rfl) _ _ 28 (by rfl) (w.heap.size + 1) 62 i4 _ 5 40 Tryz.underlying28 hi4 hz4 hs4 hb4 rfl (by decide) _ _ _ (p.checks.flatMap ckCells) (by rfl) hA.own.checks _ 1 _ (ckCells ⟨IntKind.i64.wrap (1 + Int.tmod (i : Int) 4), kv, 0, k5v, k6v⟩) (by rfl) (Rd.new (by simp) rfl) (by intro u hu; simp [ckCells] at hu; rcases hu with rfl | rfl | rfl | rfl | rfl <;> rfl) (by unfold maxLen; omega) (by omega) (by simp; omega) ?_; intro A2 c2 w9 hown2 hgrow2 hblk2 _; obtain ⟨-, -, k9, -, -, f9⟩ := hA.cells2 hgrow2 (W1.out.own.checks.not_at W1.out.own.zc W1.out.box (by decide)); have W2 := Lib.hid (hA.addCheck (x := ⟨IntKind.i64.wrap (1 + Int.tmod (i : Int) 4), kv, 0, k5v, k6v⟩) rfl hgrow2 hown2))
          refine hK.out _ _ (trivial) (fun hHeld5 => ?_)
          clear hK K hHeld4
          try simp only [Act.put, List.setIfInBounds_toArray, List.set_cons_zero, List.set_cons_succ]
          refine take_list (i := 13) (v := ?_) rfl (by kernel_rfl) (by kernel_rfl) (by kernel_rfl) (fun _ _ _ h => h) (Or.inl ⟨by rfl, ?_⟩) (by assumption) ?_
          rotate_left
          · (intro w hSw; (try dsimp only at hSw); go_simp; try (with_reducible rfl))
          try simp only [Act.put, List.setIfInBounds_toArray, List.set_cons_zero, List.set_cons_succ]
          refine wpAnyH_ready (rs := [14]) (by kernel_rfl) (by simp) ?_
          refine cons_list rfl (fun K hK => ?_) AllReadyH.nil
          go_simp
          refine hK.out _ _ (trivial) (fun hHeld6 => ?_)
          clear hK K hHeld5
          try simp only [Act.put, List.setIfInBounds_toArray, List.set_cons_zero, List.set_cons_succ]
          refine wpAnyH_done (by kernel_rfl) ?_ _
          clear hHeld6
          go_wp2_with fail
          go_meet
          case rel => exact ⟨_, _, W2.out, ⟨SM.out.n, SM.out.n1, SM.out.l, SM.out.d, by simp; omega, SM.out.o⟩⟩
        ·
          go_simp
          refine hK.out _ _ (trivial) (fun hHeld3 => ?_)
          clear hK K hHeld2
          try simp only [Act.put, List.setIfInBounds_toArray, List.set_cons_zero, List.set_cons_succ]
          refine wpAnyH_ready (rs := [1]) (by kernel_rfl) (by simp) ?_
          refine cons_list rfl (fun K hK => ?_) AllReadyH.nil
          go_simp
          refine hK.out _ _ (trivial) (fun hHeld4 => ?_)
          clear hK K hHeld3
          try simp only [Act.put, List.setIfInBounds_toArray, List.set_cons_zero, List.set_cons_succ]
          refine wpAnyH_ready (rs := [12]) (by kernel_rfl) (by simp) ?_
          refine cons_list rfl (fun K hK => ?_) AllReadyH.nil
          (refine step_app _ (by rfl) _ _ 28 (by rfl) (w.heap.size + 1) 62 i4 _ 5 40 Tryz.underlying28 hi4 hz4 hs4 hb4 rfl (by decide) _ _ _ (p.checks.flatMap ckCells) (by rfl) hA.own.checks _ 1 _ (ckCells ⟨IntKind.i64.wrap (1 + Int.tmod (i : Int) 4), kv, 0, k5v, k6v⟩) (by rfl) (Rd.new (by simp) rfl) (by intro u hu; simp [ckCells] at hu; rcases hu with rfl | rfl | rfl | rfl | rfl <;> rfl) (by unfold maxLen; omega) (by omega) (by simp; omega) ?_; intro A2 c2 w9 hown2 hgrow2 hblk2 _; obtain ⟨-, -, k9, -, -, f9⟩ := hA.cells2 hgrow2 (W1.out.own.checks.not_at W1.out.own.zc W1.out.box (by decide)); have W2 := Lib.hid (hA.addCheck (x := ⟨IntKind.i64.wrap (1 + Int.tmod (i : Int) 4), kv, 0, k5v, k6v⟩) rfl hgrow2 hown2))
          refine hK.out _ _ (trivial) (fun hHeld5 => ?_)
          clear hK K hHeld4
          try simp only [Act.put, List.setIfInBounds_toArray, List.set_cons_zero, List.set_cons_succ]
          refine take_list (i := 13) (v := ?_) rfl (by kernel_rfl) (by kernel_rfl) (by kernel_rfl) (fun _ _ _ h => h) (Or.inl ⟨by rfl, ?_⟩) (by assumption) ?_
          rotate_left
          · (intro w hSw; (try dsimp only at hSw); go_simp; try (with_reducible rfl))
          try simp only [Act.put, List.setIfInBounds_toArray, List.set_cons_zero, List.set_cons_succ]
          refine wpAnyH_ready (rs := [14]) (by kernel_rfl) (by simp) ?_
          refine cons_list rfl (fun K hK => ?_) AllReadyH.nil
          go_simp
          refine hK.out _ _ (trivial) (fun hHeld6 => ?_)
          clear hK K hHeld5
          try simp only [Act.put, List.setIfInBounds_toArray, List.set_cons_zero, List.set_cons_succ]
          refine wpAnyH_done (by kernel_rfl) ?_ _
          clear hHeld6
          go_wp2_with fail
          go_meet
          case rel => exact ⟨_, _, W2.out, ⟨SM.out.n, SM.out.n1, SM.out.l, SM.out.d, by simp; omega, SM.out.o⟩⟩
  case rest =>
  clear W1 HKV HK n7 n1 l9 d2 c6 hin hm
  obtain ⟨p, h, hW, hs⟩ := hcut
  have HP := Lib.hid (hW.post hs.small)
  obtain ⟨c0, c1, c2, c3, c4, c5, c6⟩ := hW.all
  obtain ⟨rf, r0, r1, r2, r3, r4, r5, r6⟩ := hW.resAt
  have z0 := hW.lo
  clear hW hs
  go_wp2
  exact bodyPost_ret (v := netV p h) (by simp [results, Tryz.results6, go_sem, netV, netVal, r0, r1, r2, r3, r4, r5, r6]) rfl HP.out
theorem wild_any (w : World) (A : Option Addr) (l : List Int) (c : Nat) (hl : l.length ≤ maxLen) (hlc : l.length ≤ c) (hr : Rd w w.heap.size 1 A l.length (ints l)) (hi : ∀ x ∈ l, In64 x) : Calls Tryz.prog 6 #[.slice A l.length c] w (WildPost w) := by
  by_cases h : headN l 14 = 11
  · exact wild_check w A l c hl hlc hr hi h
  · exact wild_most w A l c hl hlc hr hi h
end Go.Proofs.YtakolnmoieiicaaGreat

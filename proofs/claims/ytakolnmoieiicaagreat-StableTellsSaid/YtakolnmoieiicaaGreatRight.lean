/- The walk of plan.Right. -/
import Derived.Test.YtakolnmoieiicaaGreatPlanX
import Derived.Test.YtakolnmoieiicaaGreatSort
namespace Go.Proofs.YtakolnmoieiicaaGreat
set_option linter.unusedSimpArgs false
set_option linter.unusedVariables false
open Go.RowKit

def badDest (m : Int) (z : Ds × (Option Addr × Nat)) : Bool := !destB z.1 m
theorem right1_any (m : Int) (z : Ds × (Option Addr × Nat)) (b : Nat) (an : Option Addr) (nn cn : Nat) (hm : m = nn) (w : World) (hb : b < w.heap.size) (hc : w.cell? ⟨b, 3, none⟩ = some (.slice an nn cn)) (h : Rd w w.heap.size 1 z.2.1 z.1.origins.length (ints z.1.origins)) (hl : z.1.origins.length ≤ 1000) :
    Calls Tryz.prog 29 #[.agg #[.string z.1.name, .slice z.2.1 z.1.origins.length z.2.2], .pointer (some ⟨b, 0, none⟩)] w fun e w' => e = .returned (.bool (badDest m z)) ∧ Below w.heap.size w w' := by
  subst hm
  have HR := Lib.hid (fun o => (h.alloc (Nat.le_refl _) o).more (show w.heap.size ≤ (w.alloc o).heap.size by simp))
  clear h
  go_enter Tryz.func29, Tryz.ntmps29
  go_wp2_with (go_at_call 30; refine (dest_any z.1 nn z.2.1 z.2.2 _ (HR.out _) hl).mono ?_; rintro e w1 ⟨rfl, hb1⟩)
  go_ret
  exact ⟨ret_bool (by simp [badDest]), ((Below.refl _ _).alloc (Nat.le_refl _) _).trans (hb1.mono (by simp))⟩
set_option maxHeartbeats 1000000 in
theorem ixDest (m : Int) (b : Nat) (an : Option Addr) (nn cn : Nat) (hm : m = nn) (l : List (Ds × (Option Addr × Nat))) (A : Option Addr) (c : Nat) (w : World) (h : Rd w w.heap.size 2 A l.length (l.flatMap dsCells)) (hl : l.length ≤ 10000) (hb : b < w.heap.size) (hpc : w.cell? ⟨b, 3, none⟩ = some (.slice an nn cn)) (hor : ∀ z ∈ l, Rd w w.heap.size 1 z.2.1 z.1.origins.length (ints z.1.origins)) (hol : ∀ z ∈ l, z.1.origins.length ≤ 1000) :
    Calls Tryz.prog 66 #[.slice A l.length c, .func (.func 29) #[] #[.pointer (some ⟨b, 0, none⟩)]] w (IxPost (l.any (badDest m)) w) := by
  go_enter Tryz.func66, Tryz.ntmps66
  go_wp2_with fail
  go_loopw [8] (fun i wr => ∃ k : Nat, k ≤ l.length ∧ i = .int .i64 k ∧ (l.take k).any (badDest m) = false ∧ Below w.heap.size w wr) (fun i _ => l.length - (intOf i).toNat)
  case atStart => exact ⟨0, Nat.zero_le _, rfl, by simp, Below.refl _ _⟩
  case round =>
    obtain ⟨k, hk, rfl, hall, hbel⟩ := hrel
    have hsz := hbel.size
    have HA := Lib.hid hall
    clear hall
    by_cases hlt : k < l.length
    · obtain ⟨x, hx⟩ : ∃ x, l[k]? = some x := ⟨_, List.getElem?_eq_getElem hlt⟩
      have hts : l.take (k + 1) = l.take k ++ [x] := by
        rw [List.take_add_one, hx]; rfl
      obtain ⟨b', o, rfl, hb', hcc⟩ := h.elem (f := dsCells) (s := 2) (fun _ => rfl) hx
      have hc0 := hcc 0 _ (by omega) rfl
      have hc1 := hcc 1 _ (by omega) rfl
      rw [← hbel.cell hb'] at hc0 hc1
      simp only [Nat.add_zero, ← Nat.add_assoc] at hc0 hc1
      clear hcc
      have HX := Lib.hid hx
      have HT := Lib.hid hts
      clear hx hts h
      by_cases he : badDest m x = true
      · have hfin : ∀ w', Below w.heap.size w w' → IxPost (l.any (badDest m)) w (.returned (.int .i64 k)) w' := by
          intro w' hb'
          refine ⟨k, rfl, ?_, hb'⟩
          have h1 : decide ((0 : Int) ≤ (k : Int)) = true := by simp
          rw [h1]
          symm
          rw [List.any_eq_true]
          exact ⟨x, List.mem_of_getElem? HX.out, he⟩
        have HF := Lib.hid hfin
        have HE := Lib.hid he
        clear hfin he
        go_wp2_with fail
        refine (right1_any m x b an nn cn hm _ (by omega) ((hbel.cell hb).trans hpc) (((hor x (List.mem_of_getElem? HX.out)).below hbel (Nat.le_refl _)).more hsz) (hol x (List.mem_of_getElem? HX.out))).mono ?_
        rintro e w1 ⟨rfl, hb1⟩
        rw [HE.out]
        go_wp2
        go_ret
        exact HF.out _ (hbel.trans (hb1.mono hsz))
      · have he : badDest m x = false := by simpa using he
        have HE := Lib.hid he
        clear he
        go_wp2_with fail
        refine (right1_any m x b an nn cn hm _ (by omega) ((hbel.cell hb).trans hpc) (((hor x (List.mem_of_getElem? HX.out)).below hbel (Nat.le_refl _)).more hsz) (hol x (List.mem_of_getElem? HX.out))).mono ?_
        rintro e w1 ⟨rfl, hb1⟩
        rw [HE.out]
        go_wp2
        go_roundw
        case rel => exact ⟨k + 1, by omega, by go_num, by rw [HT.out, List.any_append, HA.out]; simp [HE.out], hbel.trans (hb1.mono hsz)⟩
        case measure => simp [intOf]; omega
    · have hfin : IxPost (l.any (badDest m)) w (.returned (.int .i64 (-1))) wr := by
        refine ⟨-1, rfl, ?_, hbel⟩
        have := HA.out
        rw [List.take_of_length_le (by omega)] at this
        rw [this]; simp
      have HF := Lib.hid hfin
      clear hfin h
      go_wp2
      go_ret
      exact HF.out
theorem cfDest (m : Int) (b : Nat) (an : Option Addr) (nn cn : Nat) (hm : m = nn) (l : List (Ds × (Option Addr × Nat))) (A : Option Addr) (c : Nat) (w : World) (h : Rd w w.heap.size 2 A l.length (l.flatMap dsCells)) (hl : l.length ≤ 10000) (hb : b < w.heap.size) (hpc : w.cell? ⟨b, 3, none⟩ = some (.slice an nn cn))
    (hor : ∀ z ∈ l, Rd w w.heap.size 1 z.2.1 z.1.origins.length (ints z.1.origins)) (hol : ∀ z ∈ l, z.1.origins.length ≤ 1000) :
    Calls Tryz.prog 38 #[.slice A l.length c, .func (.func 29) #[] #[.pointer (some ⟨b, 0, none⟩)]] w fun e w' => e = .returned (.bool (l.any (badDest m))) ∧ Below w.heap.size w w' := by
  subst hm
  go_enter Tryz.func38, Tryz.ntmps38
  go_wp2_with (go_at_call 66; refine (ixDest nn b an nn cn rfl l A c _ h hl hb hpc hor hol).mono ?_; rintro e w1 ⟨r, rfl, hr, hb1⟩)
  go_ret
  exact ⟨ret_bool (by rw [← hr]), hb1⟩

/-- The seven cells of a network. -/
def netCells (p : Net) (h : Hd) : Array Value := #[.int .i64 p.proto, .int .i64 p.cap, .int .i64 p.k, .slice h.an p.nodes.length h.cn, .slice h.al p.links.length h.cl, .slice h.ad p.dests.length h.cd, .slice h.ac p.checks.length h.cc]
def badCheck (p : Net) (c : Ck) : Bool := !checkB p c
theorem right2_any (p : Net) (h : Hd) (x : Ck) (b : Nat) (hn : p.nodes.length ≤ 1000) (hd : p.dests.length ≤ 1000) (w : World) (hb : b < w.heap.size) (hc : ∀ i u, (netCells p h)[i]? = some u → w.cell? ⟨b, i, none⟩ = some u) :
    Calls Tryz.prog 31 #[.agg #[.int .i64 x.kind, .int .i64 x.node, .int .i64 x.dest, .int .i64 x.limit, .int .i64 x.other], .pointer (some ⟨b, 0, none⟩)] w fun e w' => e = .returned (.bool (badCheck p x)) ∧ Below w.heap.size w w' := by
  have h0 := hc 0 _ rfl
  have h1 := hc 1 _ rfl
  have h2 := hc 2 _ rfl
  have h3 := hc 3 _ rfl
  have h4 := hc 4 _ rfl
  have h5 := hc 5 _ rfl
  have h6 := hc 6 _ rfl
  clear hc
  go_enter Tryz.func31, Tryz.ntmps31
  go_wp2_with (go_at_call 32; refine (check_any p h x _ hn hd).mono ?_; rintro e w1 ⟨rfl, hb1⟩)
  go_ret
  exact ⟨ret_bool (by simp [badCheck]), ((Below.refl _ _).alloc (Nat.le_refl _) _).trans (hb1.mono (by simp))⟩
set_option maxHeartbeats 1000000 in
theorem ixCheck (p : Net) (h0 : Hd) (b : Nat) (hn : p.nodes.length ≤ 1000) (hd : p.dests.length ≤ 1000) (l : List Ck) (A : Option Addr) (c : Nat) (w : World) (h : Rd w w.heap.size 5 A l.length (l.flatMap ckCells)) (hl : l.length ≤ 10000) (hb : b < w.heap.size) (hpc : ∀ i u, (netCells p h0)[i]? = some u → w.cell? ⟨b, i, none⟩ = some u) :
    Calls Tryz.prog 67 #[.slice A l.length c, .func (.func 31) #[] #[.pointer (some ⟨b, 0, none⟩)]] w (IxPost (l.any (badCheck p)) w) := by
  go_enter Tryz.func67, Tryz.ntmps67
  go_wp2_with fail
  go_loopw [8] (fun i wr => ∃ k : Nat, k ≤ l.length ∧ i = .int .i64 k ∧ (l.take k).any (badCheck p) = false ∧ Below w.heap.size w wr) (fun i _ => l.length - (intOf i).toNat)
  case atStart => exact ⟨0, Nat.zero_le _, rfl, by simp, Below.refl _ _⟩
  case round =>
    obtain ⟨k, hk, rfl, hall, hbel⟩ := hrel
    have hsz := hbel.size
    have HA := Lib.hid hall
    clear hall
    by_cases hlt : k < l.length
    · obtain ⟨x, hx⟩ : ∃ x, l[k]? = some x := ⟨_, List.getElem?_eq_getElem hlt⟩
      have hts : l.take (k + 1) = l.take k ++ [x] := by
        rw [List.take_add_one, hx]; rfl
      obtain ⟨b', o, rfl, hb', hc0, hc1, hc2, hc3, hc4⟩ := h.check hx
      rw [← hbel.cell hb'] at hc0 hc1 hc2 hc3 hc4
      have HPC := Lib.hid hpc
      clear hpc
      have HX := Lib.hid hx
      have HT := Lib.hid hts
      clear hx hts h
      by_cases he : badCheck p x = true
      · have hfin : ∀ w', Below w.heap.size w w' → IxPost (l.any (badCheck p)) w (.returned (.int .i64 k)) w' := by
          intro w' hb'
          refine ⟨k, rfl, ?_, hb'⟩
          have h1 : decide ((0 : Int) ≤ (k : Int)) = true := by simp
          rw [h1]
          symm
          rw [List.any_eq_true]
          exact ⟨x, List.mem_of_getElem? HX.out, he⟩
        have HF := Lib.hid hfin
        have HE := Lib.hid he
        clear hfin he
        go_wp2_with fail
        refine (right2_any p h0 x b hn hd _ (by omega) (fun i u hu => (hbel.cell hb).trans (HPC.out i u hu))).mono ?_
        rintro e w1 ⟨rfl, hb1⟩
        rw [HE.out]
        go_wp2
        go_ret
        exact HF.out _ (hbel.trans (hb1.mono hsz))
      · have he : badCheck p x = false := by simpa using he
        have HE := Lib.hid he
        clear he
        go_wp2_with fail
        refine (right2_any p h0 x b hn hd _ (by omega) (fun i u hu => (hbel.cell hb).trans (HPC.out i u hu))).mono ?_
        rintro e w1 ⟨rfl, hb1⟩
        rw [HE.out]
        go_wp2
        go_roundw
        case rel => exact ⟨k + 1, by omega, by go_num, by rw [HT.out, List.any_append, HA.out]; simp [HE.out], hbel.trans (hb1.mono hsz)⟩
        case measure => simp [intOf]; omega
    · have hfin : IxPost (l.any (badCheck p)) w (.returned (.int .i64 (-1))) wr := by
        refine ⟨-1, rfl, ?_, hbel⟩
        have := HA.out
        rw [List.take_of_length_le (by omega)] at this
        rw [this]; simp
      have HF := Lib.hid hfin
      clear hfin h
      go_wp2
      go_ret
      exact HF.out
theorem cfCheck (p : Net) (h0 : Hd) (b : Nat) (hn : p.nodes.length ≤ 1000) (hd : p.dests.length ≤ 1000) (l : List Ck) (A : Option Addr) (c : Nat) (w : World) (h : Rd w w.heap.size 5 A l.length (l.flatMap ckCells)) (hl : l.length ≤ 10000) (hb : b < w.heap.size) (hpc : ∀ i u, (netCells p h0)[i]? = some u → w.cell? ⟨b, i, none⟩ = some u) :
    Calls Tryz.prog 39 #[.slice A l.length c, .func (.func 31) #[] #[.pointer (some ⟨b, 0, none⟩)]] w fun e w' => e = .returned (.bool (l.any (badCheck p))) ∧ Below w.heap.size w w' := by
  have HPC := Lib.hid hpc
  clear hpc
  go_enter Tryz.func39, Tryz.ntmps39
  go_wp2_with (go_at_call 67; refine (ixCheck p h0 b hn hd l A c _ h hl hb HPC.out).mono ?_; rintro e w1 ⟨r, rfl, hr, hb1⟩)
  go_ret
  exact ⟨ret_bool (by rw [← hr]), hb1⟩

/-- May a network be? -/
def rightB (p : Net) : Bool :=
  routingB p && (withinB p.k 0 (min 4 (p.links.length : Int)) && (nodesB p && (linksB p && (decide (p.dests.length ≤ 4) && (decide (p.checks.length ≤ 16) && (namedB p && (!p.dests.any (fun d => !destB d p.nodes.length) && !p.checks.any (badCheck p))))))))

/-- The network's copy is there, and what was there is as it was. -/
structure AtRight (w : World) (p : Net) (h : Hd) (wx : World) : Prop where
  below : Below w.heap.size w wx
  size : w.heap.size < wx.heap.size
  cells : ∀ i u, (netCells p h)[i]? = some u → wx.cell? ⟨w.heap.size, i, none⟩ = some u
  net : NetR wx wx.heap.size p h
theorem AtRight.begin {w : World} {p : Net} {h : Hd} (hp : NetR w w.heap.size p h) : AtRight w p h (w.alloc (.cells (netCells p h) 30)) where
  below := (Below.refl _ _).alloc (Nat.le_refl _) _
  size := by simp
  cells := fun i u hu => by rw [World.cell?_alloc_new]; exact hu
  net := (hp.alloc (Nat.le_refl _) _).more (by simp)
theorem AtRight.call {w : World} {p : Net} {h : Hd} {wx w' : World} (a : AtRight w p h wx) (hb : Below wx.heap.size wx w') : AtRight w p h w' where
  below := a.below.trans (hb.mono (by have := a.size; omega))
  size := Nat.lt_of_lt_of_le a.size hb.size
  cells := fun i u hu => (hb.cell (p := ⟨w.heap.size, i, none⟩) a.size).trans (a.cells i u hu)
  net := a.net.call hb
theorem AtRight.all {w : World} {p : Net} {h : Hd} {wx : World} (a : AtRight w p h wx) : wx.cell? ⟨w.heap.size, 0, none⟩ = some (.int .i64 p.proto) ∧ wx.cell? ⟨w.heap.size, 1, none⟩ = some (.int .i64 p.cap) ∧ wx.cell? ⟨w.heap.size, 2, none⟩ = some (.int .i64 p.k) ∧
    wx.cell? ⟨w.heap.size, 3, none⟩ = some (.slice h.an p.nodes.length h.cn) ∧ wx.cell? ⟨w.heap.size, 4, none⟩ = some (.slice h.al p.links.length h.cl) ∧ wx.cell? ⟨w.heap.size, 5, none⟩ = some (.slice h.ad p.dests.length h.cd) ∧ wx.cell? ⟨w.heap.size, 6, none⟩ = some (.slice h.ac p.checks.length h.cc) :=
  ⟨a.cells 0 _ rfl, a.cells 1 _ rfl, a.cells 2 _ rfl, a.cells 3 _ rfl, a.cells 4 _ rfl, a.cells 5 _ rfl, a.cells 6 _ rfl⟩

theorem zip_any (l : List Ds) (d : List (Option Addr × Nat)) (h : d.length = l.length) (m : Int) : (l.zip d).any (badDest m) = l.any fun x => !destB x m := by
  have : (l.zip d).map (·.1) = l := List.map_fst_zip (by omega)
  conv => rhs; rw [← this]
  rw [List.any_map]; rfl
theorem cfDests {w : World} {p : Net} {h : Hd} (hs : Small p) (wx : World) (a : AtRight w p h wx) :
    Calls Tryz.prog 38 #[.slice h.ad p.dests.length h.cd, .func (.func 29) #[] #[.pointer (some ⟨w.heap.size, 0, none⟩)]] wx fun e w' => e = .returned (.bool (p.dests.any fun x => !destB x p.nodes.length)) ∧ Below wx.heap.size wx w' := by
  have hz : (p.dests.zip h.dv).length = p.dests.length := by simp [a.net.dlen]
  have := cfDest p.nodes.length w.heap.size h.an p.nodes.length h.cn rfl (p.dests.zip h.dv) h.ad h.cd wx (by rw [hz]; exact a.net.dests) (by rw [hz]; have := hs.dests; omega) a.size (a.cells 3 _ rfl) a.net.origins
    (fun z hz => hs.origins z.1 (List.of_mem_zip hz).1)
  rw [hz, zip_any _ _ a.net.dlen] at this
  exact this
theorem cfChecks {w : World} {p : Net} {h : Hd} (hs : Small p) (wx : World) (a : AtRight w p h wx) :
    Calls Tryz.prog 39 #[.slice h.ac p.checks.length h.cc, .func (.func 31) #[] #[.pointer (some ⟨w.heap.size, 0, none⟩)]] wx fun e w' => e = .returned (.bool (p.checks.any (badCheck p))) ∧ Below wx.heap.size wx w' :=
  cfCheck p h w.heap.size hs.nodes hs.dests p.checks h.ac h.cc wx a.net.checks (by have := hs.checks; omega) a.size a.cells

set_option maxRecDepth 100000 in
set_option maxHeartbeats 8000000 in
theorem right_gen (p : Net) (h : Hd) (w : World) (hp : NetR w w.heap.size p h) (hs : Small p) : Calls Tryz.prog 18 #[netV p h] w fun e w' => e = .returned (.bool (rightB p)) ∧ Below w.heap.size w w' := by
  have HA := Lib.hid (AtRight.begin hp)
  have hn := hs.nodes
  have hd := hs.dests
  have hlk := hs.links
  have hck := hs.checks
  clear hp
  unfold netV netVal
  by_cases g0 : (routingB p) = true
  rotate_left
  · have g0 : (routingB p) = false := by simpa using g0
    have HN := Lib.hid (show rightB p = false from by simp only [rightB, g0]; rfl)
    go_enter Tryz.func18, Tryz.ntmps18
    go_wp2_with fail
    refine (routing_any p h _).mono ?_
    rintro e w1 ⟨rfl, hb1⟩
    have HA1 := Lib.hid (HA.out.call hb1)
    obtain ⟨c0, c1, c2, c3, c4, c5, c6⟩ := HA1.out.all
    clear hb1
    go_wp2
    go_ret
    exact ⟨ret_bool (by rw [HN.out]), HA1.out.below⟩
  by_cases g1 : (withinB p.k 0 (min 4 (p.links.length : Int))) = true
  rotate_left
  · have g1 : (withinB p.k 0 (min 4 (p.links.length : Int))) = false := by simpa using g1
    have HN := Lib.hid (show rightB p = false from by simp only [rightB, g0, g1]; rfl)
    go_enter Tryz.func18, Tryz.ntmps18
    go_wp2_with fail
    refine (routing_any p h _).mono ?_
    rintro e w1 ⟨rfl, hb1⟩
    have HA1 := Lib.hid (HA.out.call hb1)
    obtain ⟨c0, c1, c2, c3, c4, c5, c6⟩ := HA1.out.all
    clear hb1
    go_wp2_with fail
    refine (within_any _ _ _ _).mono ?_
    rintro e w' ⟨rfl, rfl⟩
    go_wp2
    go_ret
    exact ⟨ret_bool (by rw [HN.out]), HA1.out.below⟩
  by_cases g2 : (nodesB p) = true
  rotate_left
  · have g2 : (nodesB p) = false := by simpa using g2
    have HN := Lib.hid (show rightB p = false from by simp only [rightB, g0, g1, g2]; rfl)
    go_enter Tryz.func18, Tryz.ntmps18
    go_wp2_with fail
    refine (routing_any p h _).mono ?_
    rintro e w1 ⟨rfl, hb1⟩
    have HA1 := Lib.hid (HA.out.call hb1)
    obtain ⟨c0, c1, c2, c3, c4, c5, c6⟩ := HA1.out.all
    clear hb1
    go_wp2_with fail
    refine (within_any _ _ _ _).mono ?_
    rintro e w' ⟨rfl, rfl⟩
    go_wp2_with fail
    refine (nodes_any p h _ HA1.out.net hs).mono ?_
    rintro e w2 ⟨rfl, hb2⟩
    have HA2 := Lib.hid (HA1.out.call hb2)
    clear c0 c1 c2 c3 c4 c5 c6
    obtain ⟨c0, c1, c2, c3, c4, c5, c6⟩ := HA2.out.all
    clear hb2
    go_wp2
    go_ret
    exact ⟨ret_bool (by rw [HN.out]), HA2.out.below⟩
  have h0 : 0 < p.nodes.length := by have := g2; simp only [nodesB, withinB, Bool.and_eq_true, decide_eq_true_eq] at this; omega
  by_cases g3 : (linksB p) = true
  rotate_left
  · have g3 : (linksB p) = false := by simpa using g3
    have HN := Lib.hid (show rightB p = false from by simp only [rightB, g0, g1, g2, g3]; rfl)
    go_enter Tryz.func18, Tryz.ntmps18
    go_wp2_with fail
    refine (routing_any p h _).mono ?_
    rintro e w1 ⟨rfl, hb1⟩
    have HA1 := Lib.hid (HA.out.call hb1)
    obtain ⟨c0, c1, c2, c3, c4, c5, c6⟩ := HA1.out.all
    clear hb1
    go_wp2_with fail
    refine (within_any _ _ _ _).mono ?_
    rintro e w' ⟨rfl, rfl⟩
    go_wp2_with fail
    refine (nodes_any p h _ HA1.out.net hs).mono ?_
    rintro e w2 ⟨rfl, hb2⟩
    have HA2 := Lib.hid (HA1.out.call hb2)
    clear c0 c1 c2 c3 c4 c5 c6
    obtain ⟨c0, c1, c2, c3, c4, c5, c6⟩ := HA2.out.all
    clear hb2
    go_wp2_with fail
    refine (links_any p h _ HA2.out.net hs).mono ?_
    rintro e w3 ⟨rfl, hb3⟩
    have HA3 := Lib.hid (HA2.out.call hb3)
    clear c0 c1 c2 c3 c4 c5 c6
    obtain ⟨c0, c1, c2, c3, c4, c5, c6⟩ := HA3.out.all
    clear hb3
    go_wp2
    go_ret
    exact ⟨ret_bool (by rw [HN.out]), HA3.out.below⟩
  by_cases g4 : (decide (p.dests.length ≤ 4)) = true
  rotate_left
  · have g4 : (decide (p.dests.length ≤ 4)) = false := by simpa using g4
    have HN := Lib.hid (show rightB p = false from by simp only [rightB, g0, g1, g2, g3, g4]; rfl)
    have i4 : ¬ (p.dests.length : Int) ≤ 4 := by simp at g4; omega
    clear g4
    go_enter Tryz.func18, Tryz.ntmps18
    go_wp2_with fail
    refine (routing_any p h _).mono ?_
    rintro e w1 ⟨rfl, hb1⟩
    have HA1 := Lib.hid (HA.out.call hb1)
    obtain ⟨c0, c1, c2, c3, c4, c5, c6⟩ := HA1.out.all
    clear hb1
    go_wp2_with fail
    refine (within_any _ _ _ _).mono ?_
    rintro e w' ⟨rfl, rfl⟩
    go_wp2_with fail
    refine (nodes_any p h _ HA1.out.net hs).mono ?_
    rintro e w2 ⟨rfl, hb2⟩
    have HA2 := Lib.hid (HA1.out.call hb2)
    clear c0 c1 c2 c3 c4 c5 c6
    obtain ⟨c0, c1, c2, c3, c4, c5, c6⟩ := HA2.out.all
    clear hb2
    go_wp2_with fail
    refine (links_any p h _ HA2.out.net hs).mono ?_
    rintro e w3 ⟨rfl, hb3⟩
    have HA3 := Lib.hid (HA2.out.call hb3)
    clear c0 c1 c2 c3 c4 c5 c6
    obtain ⟨c0, c1, c2, c3, c4, c5, c6⟩ := HA3.out.all
    clear hb3
    go_wp2
    go_ret
    exact ⟨ret_bool (by rw [HN.out]), HA3.out.below⟩
  have i4 : (p.dests.length : Int) ≤ 4 := by simp at g4; omega
  by_cases g5 : (decide (p.checks.length ≤ 16)) = true
  rotate_left
  · have g5 : (decide (p.checks.length ≤ 16)) = false := by simpa using g5
    have HN := Lib.hid (show rightB p = false from by simp only [rightB, g0, g1, g2, g3, g4, g5]; rfl)
    have i5 : ¬ (p.checks.length : Int) ≤ 16 := by simp at g5; omega
    clear g5
    go_enter Tryz.func18, Tryz.ntmps18
    go_wp2_with fail
    refine (routing_any p h _).mono ?_
    rintro e w1 ⟨rfl, hb1⟩
    have HA1 := Lib.hid (HA.out.call hb1)
    obtain ⟨c0, c1, c2, c3, c4, c5, c6⟩ := HA1.out.all
    clear hb1
    go_wp2_with fail
    refine (within_any _ _ _ _).mono ?_
    rintro e w' ⟨rfl, rfl⟩
    go_wp2_with fail
    refine (nodes_any p h _ HA1.out.net hs).mono ?_
    rintro e w2 ⟨rfl, hb2⟩
    have HA2 := Lib.hid (HA1.out.call hb2)
    clear c0 c1 c2 c3 c4 c5 c6
    obtain ⟨c0, c1, c2, c3, c4, c5, c6⟩ := HA2.out.all
    clear hb2
    go_wp2_with fail
    refine (links_any p h _ HA2.out.net hs).mono ?_
    rintro e w3 ⟨rfl, hb3⟩
    have HA3 := Lib.hid (HA2.out.call hb3)
    clear c0 c1 c2 c3 c4 c5 c6
    obtain ⟨c0, c1, c2, c3, c4, c5, c6⟩ := HA3.out.all
    clear hb3
    go_wp2
    go_ret
    exact ⟨ret_bool (by rw [HN.out]), HA3.out.below⟩
  have i5 : (p.checks.length : Int) ≤ 16 := by simp at g5; omega
  by_cases g6 : (namedB p) = true
  rotate_left
  · have g6 : (namedB p) = false := by simpa using g6
    have HN := Lib.hid (show rightB p = false from by simp only [rightB, g0, g1, g2, g3, g4, g5, g6]; rfl)
    go_enter Tryz.func18, Tryz.ntmps18
    go_wp2_with fail
    refine (routing_any p h _).mono ?_
    rintro e w1 ⟨rfl, hb1⟩
    have HA1 := Lib.hid (HA.out.call hb1)
    obtain ⟨c0, c1, c2, c3, c4, c5, c6⟩ := HA1.out.all
    clear hb1
    go_wp2_with fail
    refine (within_any _ _ _ _).mono ?_
    rintro e w' ⟨rfl, rfl⟩
    go_wp2_with fail
    refine (nodes_any p h _ HA1.out.net hs).mono ?_
    rintro e w2 ⟨rfl, hb2⟩
    have HA2 := Lib.hid (HA1.out.call hb2)
    clear c0 c1 c2 c3 c4 c5 c6
    obtain ⟨c0, c1, c2, c3, c4, c5, c6⟩ := HA2.out.all
    clear hb2
    go_wp2_with fail
    refine (links_any p h _ HA2.out.net hs).mono ?_
    rintro e w3 ⟨rfl, hb3⟩
    have HA3 := Lib.hid (HA2.out.call hb3)
    clear c0 c1 c2 c3 c4 c5 c6
    obtain ⟨c0, c1, c2, c3, c4, c5, c6⟩ := HA3.out.all
    clear hb3
    go_wp2_with fail
    refine (named_gen p h _ HA3.out.net hs h0).mono ?_
    rintro e w4 ⟨rfl, hb4⟩
    have HA4 := Lib.hid (HA3.out.call hb4)
    clear c0 c1 c2 c3 c4 c5 c6
    obtain ⟨c0, c1, c2, c3, c4, c5, c6⟩ := HA4.out.all
    clear hb4
    go_wp2
    go_ret
    exact ⟨ret_bool (by rw [HN.out]), HA4.out.below⟩
  by_cases g7 : (p.dests.any (fun x => !destB x p.nodes.length)) = false
  rotate_left
  · have g7 : (p.dests.any (fun x => !destB x p.nodes.length)) = true := by simpa using g7
    have HN := Lib.hid (show rightB p = false from by simp only [rightB, g0, g1, g2, g3, g4, g5, g6, g7]; rfl)
    go_enter Tryz.func18, Tryz.ntmps18
    go_wp2_with fail
    refine (routing_any p h _).mono ?_
    rintro e w1 ⟨rfl, hb1⟩
    have HA1 := Lib.hid (HA.out.call hb1)
    obtain ⟨c0, c1, c2, c3, c4, c5, c6⟩ := HA1.out.all
    clear hb1
    go_wp2_with fail
    refine (within_any _ _ _ _).mono ?_
    rintro e w' ⟨rfl, rfl⟩
    go_wp2_with fail
    refine (nodes_any p h _ HA1.out.net hs).mono ?_
    rintro e w2 ⟨rfl, hb2⟩
    have HA2 := Lib.hid (HA1.out.call hb2)
    clear c0 c1 c2 c3 c4 c5 c6
    obtain ⟨c0, c1, c2, c3, c4, c5, c6⟩ := HA2.out.all
    clear hb2
    go_wp2_with fail
    refine (links_any p h _ HA2.out.net hs).mono ?_
    rintro e w3 ⟨rfl, hb3⟩
    have HA3 := Lib.hid (HA2.out.call hb3)
    clear c0 c1 c2 c3 c4 c5 c6
    obtain ⟨c0, c1, c2, c3, c4, c5, c6⟩ := HA3.out.all
    clear hb3
    go_wp2_with fail
    refine (named_gen p h _ HA3.out.net hs h0).mono ?_
    rintro e w4 ⟨rfl, hb4⟩
    have HA4 := Lib.hid (HA3.out.call hb4)
    clear c0 c1 c2 c3 c4 c5 c6
    obtain ⟨c0, c1, c2, c3, c4, c5, c6⟩ := HA4.out.all
    clear hb4
    go_wp2_with fail
    refine (cfDests hs _ HA4.out).mono ?_
    rintro e w5 ⟨rfl, hb5⟩
    have HA5 := Lib.hid (HA4.out.call hb5)
    clear c0 c1 c2 c3 c4 c5 c6
    obtain ⟨c0, c1, c2, c3, c4, c5, c6⟩ := HA5.out.all
    clear hb5
    go_wp2
    go_ret
    exact ⟨ret_bool (by rw [HN.out]), HA5.out.below⟩
  have HN := Lib.hid (show rightB p = !p.checks.any (badCheck p) from by simp only [rightB, g0, g1, g2, g3, g4, g5, g6, g7]; rfl)
  go_enter Tryz.func18, Tryz.ntmps18
  go_wp2_with fail
  refine (routing_any p h _).mono ?_
  rintro e w1 ⟨rfl, hb1⟩
  have HA1 := Lib.hid (HA.out.call hb1)
  obtain ⟨c0, c1, c2, c3, c4, c5, c6⟩ := HA1.out.all
  clear hb1
  go_wp2_with fail
  refine (within_any _ _ _ _).mono ?_
  rintro e w' ⟨rfl, rfl⟩
  go_wp2_with fail
  refine (nodes_any p h _ HA1.out.net hs).mono ?_
  rintro e w2 ⟨rfl, hb2⟩
  have HA2 := Lib.hid (HA1.out.call hb2)
  clear c0 c1 c2 c3 c4 c5 c6
  obtain ⟨c0, c1, c2, c3, c4, c5, c6⟩ := HA2.out.all
  clear hb2
  go_wp2_with fail
  refine (links_any p h _ HA2.out.net hs).mono ?_
  rintro e w3 ⟨rfl, hb3⟩
  have HA3 := Lib.hid (HA2.out.call hb3)
  clear c0 c1 c2 c3 c4 c5 c6
  obtain ⟨c0, c1, c2, c3, c4, c5, c6⟩ := HA3.out.all
  clear hb3
  go_wp2_with fail
  refine (named_gen p h _ HA3.out.net hs h0).mono ?_
  rintro e w4 ⟨rfl, hb4⟩
  have HA4 := Lib.hid (HA3.out.call hb4)
  clear c0 c1 c2 c3 c4 c5 c6
  obtain ⟨c0, c1, c2, c3, c4, c5, c6⟩ := HA4.out.all
  clear hb4
  go_wp2_with fail
  refine (cfDests hs _ HA4.out).mono ?_
  rintro e w5 ⟨rfl, hb5⟩
  have HA5 := Lib.hid (HA4.out.call hb5)
  clear c0 c1 c2 c3 c4 c5 c6
  obtain ⟨c0, c1, c2, c3, c4, c5, c6⟩ := HA5.out.all
  clear hb5
  go_wp2_with fail
  refine (cfChecks hs _ HA5.out).mono ?_
  rintro e w6 ⟨rfl, hb6⟩
  have HA6 := Lib.hid (HA5.out.call hb6)
  clear c0 c1 c2 c3 c4 c5 c6
  obtain ⟨c0, c1, c2, c3, c4, c5, c6⟩ := HA6.out.all
  clear hb6
  go_wp2
  go_ret
  exact ⟨ret_bool (by rw [HN.out]), HA6.out.below⟩
theorem right_any (p : Net) (h : Hd) (w : World) (hp : NetR w w.heap.size p h) (hs : Small p) (hgood : (namesOf p).any badName = false) : Calls Tryz.prog 18 #[netV p h] w fun e w' => e = .returned (.bool (rightB p)) ∧ Below w.heap.size w w' := right_gen p h w hp hs
theorem NetR.dest1 {w : World} {B : Nat} {p : Net} {h : Hd} (n : NetR w B p h) {d : Nat} (hd : d < p.dests.length) :
    ∃ (z : Ds × (Option Addr × Nat)) (b o : Nat), p.dests[d]? = some z.1 ∧ h.ad = some ⟨b, o, none⟩ ∧ b < B ∧ w.cell? ⟨b, o + d * 2 + 1, none⟩ = some (.slice z.2.1 z.1.origins.length z.2.2) ∧ Rd w B 1 z.2.1 z.1.origins.length (ints z.1.origins) := by
  have hl : (p.dests.zip h.dv).length = p.dests.length := by rw [List.length_zip, n.dlen, Nat.min_self]
  obtain ⟨z, hz⟩ : ∃ z, (p.dests.zip h.dv)[d]? = some z := ⟨_, List.getElem?_eq_getElem (by omega)⟩
  have hr := n.dests
  rw [← hl] at hr
  obtain ⟨b, o, e, hb, hc⟩ := hr.elem (f := dsCells) (fun _ => rfl) hz
  have h1 := (List.getElem?_zip_eq_some.1 (show (p.dests.zip h.dv)[d]? = some (z.1, z.2) from hz)).1
  exact ⟨z, b, o, h1, e, hb, hc 1 _ (by omega) rfl, n.origins z (List.mem_of_getElem? hz)⟩
end Go.Proofs.YtakolnmoieiicaaGreat

/- The walks of package plan: whether a network may be. -/
import Derived.Test.YtakolnmoieiicaaGreatLex
import Derived.Test.YtakolnmoieiicaaGreatBase
namespace Go.Proofs.YtakolnmoieiicaaGreat
set_option linter.unusedSimpArgs false
set_option linter.unusedVariables false
open Go.RowKit

def placeB (k m : Int) : Bool := decide (0 ≤ k ∧ k < m)
def withinB (n a b : Int) : Bool := decide (a ≤ n ∧ n ≤ b)
theorem place_any (k m : Int) (w : World) : Calls Tryz.prog 57 #[.int .i64 k, .int .i64 m] w fun e w' => e = .returned (.bool (placeB k m)) ∧ w = w' := by
  go_enter Tryz.func57, Tryz.ntmps57
  go_wp2
  all_goals go_ret
  all_goals exact ⟨ret_bool (by unfold placeB; first | rfl | (rw [Bool.eq_iff_iff]; simp only [Bool.or_eq_true, Bool.and_eq_true, decide_eq_true_eq, beq_iff_eq, Bool.false_eq_true, false_iff, iff_false, true_iff, iff_true, or_false, false_or, and_true, true_and]; omega)), rfl⟩

theorem within_any (n a b : Int) (w : World) : Calls Tryz.prog 34 #[.int .i64 n, .int .i64 a, .int .i64 b] w fun e w' => e = .returned (.bool (withinB n a b)) ∧ w = w' := by
  go_enter Tryz.func34, Tryz.ntmps34
  go_wp2
  all_goals go_ret
  all_goals exact ⟨ret_bool (by unfold withinB; first | rfl | (rw [Bool.eq_iff_iff]; simp only [Bool.or_eq_true, Bool.and_eq_true, decide_eq_true_eq, beq_iff_eq, Bool.false_eq_true, false_iff, iff_false, true_iff, iff_true, or_false, false_or, and_true, true_and]; omega)), rfl⟩


/-! ### Names -/
def badName (s : ByteArray) : Bool := !nameB s
theorem named1_any (s : ByteArray) (w : World) : Calls Tryz.prog 63 #[.string s] w fun e w' => e = .returned (.bool (badName s)) ∧ Below w.heap.size w w' := by
  go_enter Tryz.func63, Tryz.ntmps63
  go_wp2_with (go_at_call 64; refine (name_any _ _).mono ?_; rintro e w1 ⟨rfl, hb⟩)
  go_ret
  exact ⟨rfl, hb⟩
set_option maxHeartbeats 1000000 in
theorem ixStr (l : List ByteArray) (A : Option Addr) (c : Nat) (w : World) (h : Rd w w.heap.size 1 A l.length (strs l)) (hl : l.length ≤ 10000)  :
    Calls Tryz.prog 85 #[.slice A l.length c, .func (.func 63) #[] #[]] w (IxPost (l.any (badName)) w) := by
  go_enter Tryz.func85, Tryz.ntmps85
  go_wp2_with fail
  go_loopw [8] (fun i wr => ∃ k : Nat, k ≤ l.length ∧ i = .int .i64 k ∧ (l.take k).any (badName) = false ∧ Below w.heap.size w wr) (fun i _ => l.length - (intOf i).toNat)
  case atStart => exact ⟨0, Nat.zero_le _, rfl, by simp, Below.refl _ _⟩
  case round =>
    obtain ⟨k, hk, rfl, hall, hbel⟩ := hrel
    have hsz := hbel.size
    have HA := Lib.hid hall
    clear hall
    by_cases hlt : k < l.length
    · obtain ⟨x, hx⟩ : ∃ x, l[k]? = some x := ⟨_, List.getElem?_eq_getElem hlt⟩
      have hts : l.take (k + 1) = l.take k ++ [x] := by
        rw [List.take_add_one, hx]; rfl
      obtain ⟨b, o, rfl, hb, hc0⟩ := h.one (i := k) (x := .string x) (by simp [strs, hx])
      rw [← hbel.cell hb] at hc0
      have HX := Lib.hid hx
      have HT := Lib.hid hts
      clear hx hts h
      by_cases he : badName x = true
      · have hfin : ∀ w', Below w.heap.size w w' → IxPost (l.any (badName)) w (.returned (.int .i64 k)) w' := by
          intro w' hb'
          refine ⟨k, rfl, ?_, hb'⟩
          have h1 : decide ((0 : Int) ≤ (k : Int)) = true := by simp
          rw [h1]
          symm
          rw [List.any_eq_true]
          exact ⟨x, List.mem_of_getElem? HX.out, he⟩
        have HF := Lib.hid hfin
        have HE := Lib.hid he
        clear hfin he
        go_wp2_with fail
        refine (named1_any x _).mono ?_
        rintro e w1 ⟨rfl, hb1⟩
        rw [HE.out]
        go_wp2
        go_ret
        exact HF.out _ (hbel.trans (hb1.mono hsz))
      · have he : badName x = false := by simpa using he
        have HE := Lib.hid he
        clear he
        go_wp2_with fail
        refine (named1_any x _).mono ?_
        rintro e w1 ⟨rfl, hb1⟩
        rw [HE.out]
        go_wp2
        go_roundw
        case rel => exact ⟨k + 1, by omega, by go_num, by rw [HT.out, List.any_append, HA.out]; simp [HE.out], hbel.trans (hb1.mono hsz)⟩
        case measure => simp [intOf]; omega
    · have hfin : IxPost (l.any (badName)) w (.returned (.int .i64 (-1))) wr := by
        refine ⟨-1, rfl, ?_, hbel⟩
        have := HA.out
        rw [List.take_of_length_le (by omega)] at this
        rw [this]; simp
      have HF := Lib.hid hfin
      clear hfin h
      go_wp2
      go_ret
      exact HF.out
theorem cfStr (l : List ByteArray) (A : Option Addr) (c : Nat) (w : World) (h : Rd w w.heap.size 1 A l.length (strs l)) (hl : l.length ≤ 10000)  :
    Calls Tryz.prog 62 #[.slice A l.length c, .func (.func 63) #[] #[]] w fun e w' => e = .returned (.bool (l.any (badName))) ∧ Below w.heap.size w w' := by
  go_enter Tryz.func62, Tryz.ntmps62
  go_wp2_with (go_at_call 85; refine (ixStr l A c _ h hl).mono ?_; rintro e w1 ⟨r, rfl, hr, hb1⟩)
  go_ret
  exact ⟨ret_bool (by rw [← hr]), hb1⟩

/-! ### Nodes -/
def badNode (x : Nd) : Bool := !withinB x.as_ 1 65535
theorem nodes1_any (x : Nd) (w : World) : Calls Tryz.prog 58 #[.agg #[.string x.name, .int .i64 x.as_]] w fun e w' => e = .returned (.bool (badNode x)) ∧ Below w.heap.size w w' := by
  go_enter Tryz.func58, Tryz.ntmps58
  go_wp2_with (go_at_call 34; refine (within_any _ _ _ _).mono ?_; rintro e w1 ⟨rfl, rfl⟩)
  go_ret
  exact ⟨rfl, (Below.refl _ _).alloc (Nat.le_refl _) _⟩
set_option maxHeartbeats 1000000 in
theorem ixNode (l : List Nd) (A : Option Addr) (c : Nat) (w : World) (h : Rd w w.heap.size 2 A l.length (l.flatMap ndCells)) (hl : l.length ≤ 10000)  :
    Calls Tryz.prog 82 #[.slice A l.length c, .func (.func 58) #[] #[]] w (IxPost (l.any (badNode)) w) := by
  go_enter Tryz.func82, Tryz.ntmps82
  go_wp2_with fail
  go_loopw [8] (fun i wr => ∃ k : Nat, k ≤ l.length ∧ i = .int .i64 k ∧ (l.take k).any (badNode) = false ∧ Below w.heap.size w wr) (fun i _ => l.length - (intOf i).toNat)
  case atStart => exact ⟨0, Nat.zero_le _, rfl, by simp, Below.refl _ _⟩
  case round =>
    obtain ⟨k, hk, rfl, hall, hbel⟩ := hrel
    have hsz := hbel.size
    have HA := Lib.hid hall
    clear hall
    by_cases hlt : k < l.length
    · obtain ⟨x, hx⟩ : ∃ x, l[k]? = some x := ⟨_, List.getElem?_eq_getElem hlt⟩
      have hts : l.take (k + 1) = l.take k ++ [x] := by
        rw [List.take_add_one, hx]; rfl
      obtain ⟨b, o, rfl, hb, hc0, hc1⟩ := h.node hx
      rw [← hbel.cell hb] at hc0 hc1
      have HX := Lib.hid hx
      have HT := Lib.hid hts
      clear hx hts h
      by_cases he : badNode x = true
      · have hfin : ∀ w', Below w.heap.size w w' → IxPost (l.any (badNode)) w (.returned (.int .i64 k)) w' := by
          intro w' hb'
          refine ⟨k, rfl, ?_, hb'⟩
          have h1 : decide ((0 : Int) ≤ (k : Int)) = true := by simp
          rw [h1]
          symm
          rw [List.any_eq_true]
          exact ⟨x, List.mem_of_getElem? HX.out, he⟩
        have HF := Lib.hid hfin
        have HE := Lib.hid he
        clear hfin he
        go_wp2_with fail
        refine (nodes1_any x _).mono ?_
        rintro e w1 ⟨rfl, hb1⟩
        rw [HE.out]
        go_wp2
        go_ret
        exact HF.out _ (hbel.trans (hb1.mono hsz))
      · have he : badNode x = false := by simpa using he
        have HE := Lib.hid he
        clear he
        go_wp2_with fail
        refine (nodes1_any x _).mono ?_
        rintro e w1 ⟨rfl, hb1⟩
        rw [HE.out]
        go_wp2
        go_roundw
        case rel => exact ⟨k + 1, by omega, by go_num, by rw [HT.out, List.any_append, HA.out]; simp [HE.out], hbel.trans (hb1.mono hsz)⟩
        case measure => simp [intOf]; omega
    · have hfin : IxPost (l.any (badNode)) w (.returned (.int .i64 (-1))) wr := by
        refine ⟨-1, rfl, ?_, hbel⟩
        have := HA.out
        rw [List.take_of_length_le (by omega)] at this
        rw [this]; simp
      have HF := Lib.hid hfin
      clear hfin h
      go_wp2
      go_ret
      exact HF.out
theorem cfNode (l : List Nd) (A : Option Addr) (c : Nat) (w : World) (h : Rd w w.heap.size 2 A l.length (l.flatMap ndCells)) (hl : l.length ≤ 10000)  :
    Calls Tryz.prog 59 #[.slice A l.length c, .func (.func 58) #[] #[]] w fun e w' => e = .returned (.bool (l.any (badNode))) ∧ Below w.heap.size w w' := by
  go_enter Tryz.func59, Tryz.ntmps59
  go_wp2_with (go_at_call 82; refine (ixNode l A c _ h hl).mono ?_; rintro e w1 ⟨r, rfl, hr, hb1⟩)
  go_ret
  exact ⟨ret_bool (by rw [← hr]), hb1⟩

/-- How a network's slices lie in memory. -/
structure Hd where
  an : Option Addr
  cn : Nat
  al : Option Addr
  cl : Nat
  ad : Option Addr
  cd : Nat
  ac : Option Addr
  cc : Nat
  dv : List (Option Addr × Nat)
def netV (p : Net) (h : Hd) : Value := netVal p h.an h.cn h.al h.cl h.ad h.cd h.ac h.cc
def dsCells (z : Ds × (Option Addr × Nat)) : List Value := [.string z.1.name, .slice z.2.1 z.1.origins.length z.2.2]
/-- A network reads out of memory below block B. -/
structure NetR (w : World) (B : Nat) (p : Net) (h : Hd) : Prop where
  nodes : Rd w B 2 h.an p.nodes.length (p.nodes.flatMap ndCells)
  links : Rd w B 3 h.al p.links.length (p.links.flatMap lkCells)
  dlen : h.dv.length = p.dests.length
  dests : Rd w B 2 h.ad p.dests.length ((p.dests.zip h.dv).flatMap dsCells)
  origins : ∀ z ∈ p.dests.zip h.dv, Rd w B 1 z.2.1 z.1.origins.length (ints z.1.origins)
  checks : Rd w B 5 h.ac p.checks.length (p.checks.flatMap ckCells)
/-- No list of a network is long. -/
structure Small (p : Net) : Prop where
  nodes : p.nodes.length ≤ 1000
  links : p.links.length ≤ 1000
  dests : p.dests.length ≤ 1000
  checks : p.checks.length ≤ 1000
  origins : ∀ d ∈ p.dests, d.origins.length ≤ 1000
theorem NetR.keep {w w' : World} {B : Nat} {p : Net} {h : Hd} (n : NetR w B p h) (hk : ∀ b o, b < B → w'.cell? ⟨b, o, none⟩ = w.cell? ⟨b, o, none⟩) : NetR w' B p h :=
  ⟨n.nodes.keep hk, n.links.keep hk, n.dlen, n.dests.keep hk, fun z hz => (n.origins z hz).keep hk, n.checks.keep hk⟩
theorem NetR.more {w : World} {B B' : Nat} {p : Net} {h : Hd} (n : NetR w B p h) (hB : B ≤ B') : NetR w B' p h :=
  ⟨n.nodes.more hB, n.links.more hB, n.dlen, n.dests.more hB, fun z hz => (n.origins z hz).more hB, n.checks.more hB⟩
theorem NetR.below {w w' : World} {B C : Nat} {p : Net} {h : Hd} (n : NetR w B p h) (hb : Below C w w') (hC : B ≤ C) : NetR w' B p h :=
  n.keep fun _ _ hlt => hb.cell (Nat.lt_of_lt_of_le hlt hC)
theorem NetR.alloc {w : World} {B : Nat} {p : Net} {h : Hd} (n : NetR w B p h) (hB : B ≤ w.heap.size) (o : Obj) : NetR (w.alloc o) B p h :=
  n.keep fun b _ hlt => World.cell?_alloc_lt w o _ (show b < w.heap.size by omega)
/-- Behind a call: the network still reads, below the heap's new end. -/
theorem NetR.call {w w' : World} {p : Net} {h : Hd} (n : NetR w w.heap.size p h) (hb : Below w.heap.size w w') : NetR w' w'.heap.size p h :=
  (n.below hb (Nat.le_refl _)).more hb.size

def nodesB (p : Net) : Bool := withinB p.nodes.length 1 12 && !p.nodes.any badNode
theorem nodes_any (p : Net) (h : Hd) (w : World) (hp : NetR w w.heap.size p h) (hs : Small p) : Calls Tryz.prog 35 #[netV p h] w fun e w' => e = .returned (.bool (nodesB p)) ∧ Below w.heap.size w w' := by
  obtain ⟨an, cn, al, cl, ad, cd, ac, cc, dv⟩ := h
  have hl := hs.nodes
  have hR : ∀ o, Rd (w.alloc o) (w.alloc o).heap.size 2 an p.nodes.length (p.nodes.flatMap ndCells) := fun o => (hp.nodes.alloc (Nat.le_refl _) _).more (by simp)
  have HR := Lib.hid hR
  clear hR hp
  unfold netV netVal
  by_cases hb : withinB p.nodes.length 1 12 = true
  · have HN := Lib.hid (show nodesB p = !p.nodes.any badNode from by unfold nodesB; rw [hb]; rfl)
    go_enter Tryz.func35, Tryz.ntmps35
    go_wp2_with (go_at_call 34; refine (within_any _ _ _ _).mono ?_; rintro e w1 ⟨rfl, rfl⟩)
    refine (cfNode p.nodes an cn _ (HR.out _) (by omega)).mono ?_
    rintro e w1 ⟨rfl, hb1⟩
    go_wp2
    go_ret
    exact ⟨ret_bool (by rw [HN.out]), ((Below.refl _ _).alloc (Nat.le_refl _) _).trans (hb1.mono (by simp))⟩
  · have hb : withinB p.nodes.length 1 12 = false := by simpa using hb
    have HN := Lib.hid (show nodesB p = false from by unfold nodesB; rw [hb]; rfl)
    go_enter Tryz.func35, Tryz.ntmps35
    go_wp2_with (go_at_call 34; refine (within_any _ _ _ _).mono ?_; rintro e w1 ⟨rfl, rfl⟩)
    go_ret
    exact ⟨ret_bool (by rw [HN.out]), (Below.refl _ _).alloc (Nat.le_refl _) _⟩

def routingB (p : Net) : Bool := (p.proto == 1 && p.cap == 0) || (p.proto == 2 && withinB p.cap 1 12)
theorem routing_any (p : Net) (h : Hd) (w : World) : Calls Tryz.prog 33 #[netV p h] w fun e w' => e = .returned (.bool (routingB p)) ∧ Below w.heap.size w w' := by
  obtain ⟨an, cn, al, cl, ad, cd, ac, cc, dv⟩ := h
  unfold netV netVal
  by_cases h1 : p.proto = 1
  · have b1 : (p.proto == 1) = true := by simp [h1]
    have HN := Lib.hid (show routingB p = (p.cap == 0) from by unfold routingB; simp [h1])
    clear h1
    go_enter Tryz.func33, Tryz.ntmps33
    go_wp2
    all_goals go_ret
    all_goals exact ⟨ret_bool (by rw [HN.out]), (Below.refl _ _).alloc (Nat.le_refl _) _⟩
  · have b1 : (p.proto == 1) = false := by simp [h1]
    by_cases h2 : p.proto = 2
    · have b2 : (p.proto == 2) = true := by simp [h2]
      have HN := Lib.hid (show routingB p = withinB p.cap 1 12 from by unfold routingB; simp [h2])
      clear h1 h2
      go_enter Tryz.func33, Tryz.ntmps33
      go_wp2_with (go_at_call 34; refine (within_any _ _ _ _).mono ?_; rintro e w1 ⟨rfl, rfl⟩)
      all_goals go_ret
      all_goals exact ⟨ret_bool (by rw [HN.out]), (Below.refl _ _).alloc (Nat.le_refl _) _⟩
    · have b2 : (p.proto == 2) = false := by simp [h2]
      have HN := Lib.hid (show routingB p = false from by unfold routingB; simp [h1, h2])
      clear h1 h2
      go_enter Tryz.func33, Tryz.ntmps33
      go_wp2
      all_goals go_ret
      all_goals exact ⟨ret_bool (by rw [HN.out]), (Below.refl _ _).alloc (Nat.le_refl _) _⟩

/-! ### Destinations -/
/-- Is the number at place j a place, above the one ahead? -/
def okAt (l : List Int) (m : Int) (j : Nat) : Bool :=
  match l[j]? with
  | some o => placeB o m && (j == 0 || match l[j - 1]? with | some q => decide (q < o) | none => false)
  | none => false
def destB (x : Ds) (m : Int) : Bool := (List.range x.origins.length).all (okAt x.origins m) && decide (0 < x.origins.length)
theorem all_range_succ (f : Nat → Bool) (k : Nat) : (List.range (k + 1)).all f = ((List.range k).all f && f k) := by simp [List.range_succ, List.all_append]
theorem all_range_false {f : Nat → Bool} {k n : Nat} (hk : k < n) (h : f k = false) : (List.range n).all f = false := by
  rw [List.all_eq_false]
  exact ⟨k, List.mem_range.2 hk, by simp [h]⟩

set_option maxHeartbeats 1000000 in
theorem dest_any (x : Ds) (m : Int) (a : Option Addr) (c : Nat) (w : World) (h : Rd w w.heap.size 1 a x.origins.length (ints x.origins)) (hl : x.origins.length ≤ 1000) :
    Calls Tryz.prog 30 #[.agg #[.string x.name, .slice a x.origins.length c], .int .i64 m] w fun e w' => e = .returned (.bool (destB x m)) ∧ Below w.heap.size w w' := by
  generalize hlo : x.origins = l at *
  have HD : Hid (destB x m = ((List.range l.length).all (okAt l m) && decide (0 < l.length))) := Lib.hid (by unfold destB; rw [hlo])
  clear hlo
  have hB : Below w.heap.size w (w.alloc (.cells #[.string x.name, .slice a l.length c] 60)) := (Below.refl _ _).alloc (Nat.le_refl _) _
  have HB := Lib.hid hB
  have HR : ∀ b o v, b < w.heap.size → w.cell? ⟨b, o, none⟩ = some v → (w.alloc (.cells #[.string x.name, .slice a l.length c] 60)).cell? ⟨b, o, none⟩ = some v := fun b o v hb hc => (hB.cell hb).trans hc
  have HR := Lib.hid HR
  clear hB
  go_enter Tryz.func30, Tryz.ntmps30
  go_wp2_with fail
  go_loop [10] (fun i => ∃ k : Nat, k ≤ l.length ∧ i = .int .i64 k ∧ (List.range k).all (okAt l m) = true) (fun i => l.length - (intOf i).toNat)
  case atStart => exact ⟨0, Nat.zero_le _, rfl, by simp⟩
  case round =>
    obtain ⟨k, hk, rfl, hall⟩ := hrel
    have HA := Lib.hid hall
    clear hall
    by_cases hlt : k < l.length
    · obtain ⟨o, ho⟩ : ∃ o, l[k]? = some o := ⟨_, List.getElem?_eq_getElem hlt⟩
      obtain ⟨b, off, rfl, hb, hc⟩ := h.one (i := k) (x := .int .i64 o) (by simp [ints, ho])
      have hc := HR.out b (off + k) _ hb hc
      by_cases hp : placeB o m = true
      · by_cases hk0 : k = 0
        · subst hk0
          have HO := Lib.hid (show okAt l m 0 = true from by simp [okAt, ho, hp])
          clear ho h
          simp at hc
          go_wp2_with (go_at_call 57; refine (place_any _ _ _).mono ?_; rintro e w1 ⟨rfl, rfl⟩)
          go_round
          case rel => exact ⟨1, by omega, rfl, by rw [all_range_succ, HA.out, HO.out]; rfl⟩
          case measure => simp [intOf]; omega
        · obtain ⟨q, hq⟩ : ∃ q, l[k - 1]? = some q := ⟨_, List.getElem?_eq_getElem (by omega)⟩
          obtain ⟨b', off', e', hb', hc'⟩ := h.one (i := k - 1) (x := .int .i64 q) (by simp [ints, hq])
          injection e' with e'
          injection e' with e1 e2
          subst e1 e2
          have hc' := HR.out _ _ _ hb' hc'
          have hkpos : (0 : Int) < (k : Int) := by omega
          have hk1 : 1 ≤ k := by omega
          by_cases hqo : q < o
          · have HO := Lib.hid (show okAt l m k = true from by simp [okAt, ho, hp, hq, hqo])
            clear ho h hq hk0
            go_wp2_with (go_at_call 57; refine (place_any _ _ _).mono ?_; rintro e w1 ⟨rfl, rfl⟩)
            go_round
            case rel => exact ⟨k + 1, by omega, by go_num, by rw [all_range_succ, HA.out, HO.out]; rfl⟩
            case measure => simp [intOf]; omega
          · have HO := Lib.hid (show okAt l m k = false from by simp [okAt, ho, hq, hqo]; omega)
            have HF := Lib.hid (show destB x m = false from by rw [HD.out, all_range_false hlt HO.out]; rfl)
            clear ho h hq hk0
            go_wp2_with (go_at_call 57; refine (place_any _ _ _).mono ?_; rintro e w1 ⟨rfl, rfl⟩)
            go_ret
            exact ⟨ret_bool (by rw [HF.out]), HB.out⟩
      · have hp : placeB o m = false := by simpa using hp
        have HO := Lib.hid (show okAt l m k = false from by simp [okAt, ho, hp])
        have HF := Lib.hid (show destB x m = false from by rw [HD.out, all_range_false hlt HO.out]; rfl)
        clear ho h
        go_wp2_with (go_at_call 57; refine (place_any _ _ _).mono ?_; rintro e w1 ⟨rfl, rfl⟩)
        go_ret
        exact ⟨ret_bool (by rw [HF.out]), HB.out⟩
    · have hkl : k = l.length := by omega
      have HF := Lib.hid (show destB x m = decide (0 < l.length) from by rw [HD.out, ← hkl, HA.out]; rfl)
      clear hkl h
      go_wp2
      go_ret
      exact ⟨ret_bool (by rw [HF.out]), HB.out⟩

/-! ### Checks -/
def limitOf (c : Ck) : Int := if c.kind = 2 then 65535 else 0
def othersOf (p : Net) (c : Ck) : Int := if c.kind = 3 ∨ c.kind = 4 then p.nodes.length else 1
def kindB (c : Ck) : Bool := c.kind == 1 || c.kind == 2 || c.kind == 3 || c.kind == 4
def checkB (p : Net) (c : Ck) : Bool := kindB c && (placeB c.node p.nodes.length && placeB c.dest p.dests.length && withinB c.limit 0 (limitOf c) && placeB c.other (othersOf p c))

set_option maxHeartbeats 2000000 in
theorem check_any (p : Net) (h : Hd) (c : Ck) (w : World) (hn : p.nodes.length ≤ 1000) (hd : p.dests.length ≤ 1000) :
    Calls Tryz.prog 32 #[netV p h, .agg #[.int .i64 c.kind, .int .i64 c.node, .int .i64 c.dest, .int .i64 c.limit, .int .i64 c.other]] w fun e w' => e = .returned (.bool (checkB p c)) ∧ Below w.heap.size w w' := by
  obtain ⟨an, cn, al, cl, ad, cd, ac, cc, dv⟩ := h
  have hB : ∀ o o', Below w.heap.size w ((w.alloc o).alloc o') := fun o o' => ((Below.refl _ _).alloc (Nat.le_refl _) _).alloc (by simp) _
  have HB := Lib.hid hB
  clear hB
  unfold netV netVal
  rcases (show (kindB c = false ∧ c.kind ≠ 1 ∧ c.kind ≠ 2 ∧ c.kind ≠ 3 ∧ c.kind ≠ 4) ∨ c.kind = 1 ∨ c.kind = 2 ∨ c.kind = 3 ∨ c.kind = 4 from by simp only [kindB]; simp; omega) with ⟨hk, h1, h2, h3, h4⟩ | hk | hk | hk | hk
  · have b1 : (c.kind == 1) = false := by simp [h1]
    have b2 : (c.kind == 2) = false := by simp [h2]
    have b3 : (c.kind == 3) = false := by simp [h3]
    have b4 : (c.kind == 4) = false := by simp [h4]
    have HF := Lib.hid (show checkB p c = false from by unfold checkB; rw [hk]; rfl)
    clear h1 h2 h3 h4 hk
    go_enter Tryz.func32, Tryz.ntmps32
    go_wp2
    go_ret
    exact ⟨ret_bool (by rw [HF.out]), HB.out _ _⟩
  · have HF := Lib.hid (show checkB p c = (placeB c.node p.nodes.length && placeB c.dest p.dests.length && withinB c.limit 0 0 && placeB c.other 1) from by simp [checkB, kindB, limitOf, othersOf, hk])
    have b1 : (c.kind == 1) = true := by simp [hk]
    clear hk
    go_enter Tryz.func32, Tryz.ntmps32
    go_wp2_with (first | (go_at_call 57; refine (place_any _ _ _).mono ?_; rintro e w1 ⟨rfl, rfl⟩) | (go_at_call 34; refine (within_any _ _ _ _).mono ?_; rintro e w1 ⟨rfl, rfl⟩))
    all_goals go_ret
    all_goals exact ⟨ret_bool (by rw [HF.out]; simp [*]), HB.out _ _⟩
  · have HF := Lib.hid (show checkB p c = (placeB c.node p.nodes.length && placeB c.dest p.dests.length && withinB c.limit 0 65535 && placeB c.other 1) from by simp [checkB, kindB, limitOf, othersOf, hk])
    have b1 : (c.kind == 1) = false := by simp [hk]
    have b2 : (c.kind == 2) = true := by simp [hk]
    clear hk
    go_enter Tryz.func32, Tryz.ntmps32
    go_wp2_with (first | (go_at_call 57; refine (place_any _ _ _).mono ?_; rintro e w1 ⟨rfl, rfl⟩) | (go_at_call 34; refine (within_any _ _ _ _).mono ?_; rintro e w1 ⟨rfl, rfl⟩))
    all_goals go_ret
    all_goals exact ⟨ret_bool (by rw [HF.out]; simp [*]), HB.out _ _⟩
  · have HF := Lib.hid (show checkB p c = (placeB c.node p.nodes.length && placeB c.dest p.dests.length && withinB c.limit 0 0 && placeB c.other p.nodes.length) from by simp [checkB, kindB, limitOf, othersOf, hk])
    have b1 : (c.kind == 1) = false := by simp [hk]
    have b2 : (c.kind == 2) = false := by simp [hk]
    have b3 : (c.kind == 3) = true := by simp [hk]
    clear hk
    go_enter Tryz.func32, Tryz.ntmps32
    go_wp2_with (first | (go_at_call 57; refine (place_any _ _ _).mono ?_; rintro e w1 ⟨rfl, rfl⟩) | (go_at_call 34; refine (within_any _ _ _ _).mono ?_; rintro e w1 ⟨rfl, rfl⟩))
    all_goals go_ret
    all_goals exact ⟨ret_bool (by rw [HF.out]; simp [*]), HB.out _ _⟩
  · have HF := Lib.hid (show checkB p c = (placeB c.node p.nodes.length && placeB c.dest p.dests.length && withinB c.limit 0 0 && placeB c.other p.nodes.length) from by simp [checkB, kindB, limitOf, othersOf, hk])
    have b1 : (c.kind == 1) = false := by simp [hk]
    have b2 : (c.kind == 2) = false := by simp [hk]
    have b3 : (c.kind == 3) = false := by simp [hk]
    have b4 : (c.kind == 4) = true := by simp [hk]
    clear hk
    go_enter Tryz.func32, Tryz.ntmps32
    go_wp2_with (first | (go_at_call 57; refine (place_any _ _ _).mono ?_; rintro e w1 ⟨rfl, rfl⟩) | (go_at_call 34; refine (within_any _ _ _ _).mono ?_; rintro e w1 ⟨rfl, rfl⟩))
    all_goals go_ret
    all_goals exact ⟨ret_bool (by rw [HF.out]; simp [*]), HB.out _ _⟩
end Go.Proofs.YtakolnmoieiicaaGreat

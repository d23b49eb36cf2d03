/- The program's layers 9 and 10 where the network, the destination or the routes are wrong: nothing is handed back. The document's layers 9 and 10 where the network, the destination or the routes are wrong: nothing is handed back. Routes that fit, as the plain law of layer 10 has them. No program is walked here. The program's stable.Is at any network that is small (it may be wrong), any destination and any routes. -/
import Derived.Test.YtakolnmoieiicaaGreatFits9
import Derived.Test.YtakolnmoieiicaaGreatStableW
import Derived.Test.YtakolnmoieiicaaGreatBadG
namespace Go.Proofs.YtakolnmoieiicaaGreat
set_option linter.unusedSimpArgs false
set_option linter.unusedVariables false
open Go.RowKit

section
/-- A network that may be, and a destination of it. -/
def thereB (p : Net) (d : Int) : Bool := rightB p && placeB d p.dests.length
set_option maxRecDepth 100000 in
set_option maxHeartbeats 2000000 in
theorem there_gen (p : Net) (h : Hd) (d : Int) (w : World) (hp : NetR w w.heap.size p h) (hs : Small p) :
    Calls Tryz.prog 44 #[netV p h, .int .i64 d] w fun e w' => e = .returned (.bool (thereB p d)) ∧ Below w.heap.size w w' := by
  have HA := Lib.hid (AtRight.begin hp)
  have HS := Lib.hid hs
  have HT := Lib.hid (show thereB p d = (rightB p && decide (0 ≤ d ∧ d < p.dests.length)) from rfl)
  clear hp hs
  unfold netV netVal
  go_enter Tryz.func44, Tryz.ntmps44
  go_wp2_with fail
  refine (right_gen p h _ HA.out.net HS.out).mono ?_
  rintro e w1 ⟨rfl, hb1⟩
  have HA1 := Lib.hid (HA.out.call hb1)
  obtain ⟨c0, c1, c2, c3, c4, c5, c6⟩ := HA1.out.all
  clear hb1
  cases hr : rightB p with
  | false =>
    have HF := Lib.hid (show false = thereB p d from by rw [HT.out, hr]; rfl)
    clear hr
    go_wp2
    go_ret
    exact ⟨ret_bool HF.out, HA1.out.below⟩
  | true =>
    by_cases h0 : 0 ≤ d
    · by_cases h1 : d < p.dests.length
      · have HF := Lib.hid (show true = thereB p d from by rw [HT.out, hr]; simp [h0, h1])
        clear hr
        go_wp2
        go_ret
        exact ⟨ret_bool HF.out, HA1.out.below⟩
      · have HF := Lib.hid (show false = thereB p d from by rw [HT.out, hr]; simp [h1])
        have h1' : (p.dests.length : Int) ≤ d := by omega
        clear hr
        go_wp2
        go_ret
        exact ⟨ret_bool (by rw [← HF.out]; simp; omega), HA1.out.below⟩
    · have HF := Lib.hid (show false = thereB p d from by rw [HT.out, hr]; simp [h0])
      have h0' : d < 0 := by omega
      clear hr
      go_wp2
      go_ret
      exact ⟨ret_bool HF.out, HA1.out.below⟩
set_option maxRecDepth 100000 in
set_option maxHeartbeats 2000000 in
theorem start_bad (p : Net) (h : Hd) (d : Int) (w : World) (hp : NetR w w.heap.size p h) (hs : Small p) (hb : thereB p d = false) :
    Calls Tryz.prog 20 #[netV p h, .int .i64 d] w fun e w' => e = .returned (.slice none 0 0) ∧ Below w.heap.size w w' := by
  have HA := Lib.hid (AtRight.begin hp)
  have HS := Lib.hid hs
  have HB := Lib.hid hb
  clear hp hs hb
  unfold netV netVal
  go_enter Tryz.func20, Tryz.ntmps20
  go_wp2_with fail
  refine (there_gen p h d _ HA.out.net HS.out).mono ?_
  rintro e w1 ⟨rfl, hb1⟩
  rw [HB.out]
  have HA1 := Lib.hid (HA.out.call hb1)
  clear hb1
  go_wp2
  go_ret
  exact ⟨rfl, HA1.out.below⟩
set_option maxRecDepth 100000 in
set_option maxHeartbeats 2000000 in
theorem step_bad (p : Net) (h : Hd) (f d : Int) (Z : List RtZ) (A : Option Addr) (c : Nat) (w : World) (hp : NetR w w.heap.size p h) (hs : Small p) (hl : RtsR w w.heap.size Z A) (hb : thereB p d = false ∨ ¬ FitsQ p (Z.map (·.1))) :
    Calls Tryz.prog 21 #[netV p h, .int .i64 f, .int .i64 d, .slice A Z.length c] w fun e w' => e = .returned (.slice none 0 0) ∧ Below w.heap.size w w' := by
  have HA := Lib.hid (AtRight.begin hp)
  have HS := Lib.hid hs
  have HB := Lib.hid hb
  have HL := Lib.hid ((hl.alloc (Nat.le_refl _) (.cells (netCells p h) 30)).more (B' := (w.alloc (.cells (netCells p h) 30)).heap.size) (by rw [World.size_alloc]; exact Nat.le_succ _))
  clear hp hs hb hl
  unfold netV netVal
  go_enter Tryz.func21, Tryz.ntmps21
  go_wp2_with fail
  refine (there_gen p h d _ HA.out.net HS.out).mono ?_
  rintro e w1 ⟨rfl, hb1⟩
  have HA1 := Lib.hid (HA.out.call hb1)
  have L1 := Lib.hid (HL.out.call hb1)
  obtain ⟨c0, c1, c2, c3, c4, c5, c6⟩ := HA1.out.all
  clear hb1
  cases ht : thereB p d with
  | false =>
    clear ht
    go_wp2
    go_ret
    exact ⟨rfl, HA1.out.below⟩
  | true =>
    have HN : Hid (¬ FitsQ p (Z.map (·.1))) := Lib.hid (HB.out.resolve_left (by rw [ht]; decide))
    clear ht
    go_wp2_with fail
    refine (fits9_gen p h Z A c _ HA1.out.net HS.out L1.out).mono ?_
    rintro e w2 ⟨b, rfl, hbq, hb2⟩
    have hbf : b = false := by cases b with | false => rfl | true => exact absurd (hbq.1 rfl) HN.out
    subst hbf
    have HA2 := Lib.hid (HA1.out.call hb2)
    clear hbq hb2
    go_wp2
    go_ret
    exact ⟨rfl, HA2.out.below⟩
set_option maxRecDepth 100000 in
set_option maxHeartbeats 2000000 in
theorem is_bad (p : Net) (h : Hd) (f d : Int) (Z : List RtZ) (A : Option Addr) (c : Nat) (w : World) (hp : NetR w w.heap.size p h) (hs : Small p) (hl : RtsR w w.heap.size Z A) (hb : thereB p d = false ∨ ¬ FitsQ p (Z.map (·.1))) :
    Calls Tryz.prog 14 #[netV p h, .int .i64 f, .int .i64 d, .slice A Z.length c] w fun e w' => e = .returned (.bool false) ∧ Below w.heap.size w w' := by
  have HA := Lib.hid (AtRight.begin hp)
  have HS := Lib.hid hs
  have HB := Lib.hid hb
  have HL := Lib.hid ((hl.alloc (Nat.le_refl _) (.cells (netCells p h) 30)).more (B' := (w.alloc (.cells (netCells p h) 30)).heap.size) (by rw [World.size_alloc]; exact Nat.le_succ _))
  clear hp hs hb hl
  unfold netV netVal
  go_enter Tryz.func14, Tryz.ntmps14
  go_wp2_with fail
  refine (step_bad p h f d Z A c _ HA.out.net HS.out HL.out HB.out).mono ?_
  rintro e w1 ⟨rfl, hb1⟩
  have HA1 := Lib.hid (HA.out.call hb1)
  clear hb1
  go_wp2
  go_ret
  exact ⟨rfl, HA1.out.below⟩
set_option maxRecDepth 100000 in
set_option maxHeartbeats 2000000 in
theorem solve_bad_any (p : Net) (h : Hd) (f d b : Int) (w : World) (hp : NetR w w.heap.size p h) (hs : Small p) (hb : thereB p d = false) :
    Calls Tryz.prog 10 #[netV p h, .int .i64 f, .int .i64 d, .int .i64 b] w fun e w' => e = .returned (.tuple #[.slice none 0 0, .int .i64 0, .int .i64 1]) ∧ Below w.heap.size w w' := by
  have HA := Lib.hid (AtRight.begin hp)
  have HS := Lib.hid hs
  have HB := Lib.hid hb
  clear hp hs hb
  unfold netV netVal
  go_enter Tryz.func10, Tryz.ntmps10
  go_wp2_with fail
  go_step3
  go_wp2_with fail
  refine (start_bad p h d _ HA.out.net HS.out HB.out).mono ?_
  rintro e w1 ⟨rfl, hb1⟩
  have HA1 := Lib.hid (HA.out.call hb1)
  clear hb1
  go_wp2
  rw [Exit.noGoto_ret]
  go_ret3
  exact ⟨by rfl, HA1.out.below⟩
end

section
set_option maxRecDepth 100000 in
set_option maxHeartbeats 2000000 in
theorem rstart_bad (p : Net) (h : Hd) (d : Int) (w : World) (hp : NetR w w.heap.size p h) (hs : Small p) (hb : thereB p d = false) :
    Calls Tryz.prog 23 #[netV p h, .int .i64 d] w fun e w' => e = .returned (.slice none 0 0) ∧ Below w.heap.size w w' := by
  have HA := Lib.hid (AtRight.begin hp)
  have HS := Lib.hid hs
  have HB := Lib.hid (show (rightB p && decide (0 ≤ d ∧ d < p.dests.length)) = false from hb)
  clear hp hs hb
  unfold netV netVal
  go_enter Tryz.func23, Tryz.ntmps23
  go_wp2_with fail
  refine (rright_any p h _ HA.out.net HS.out).mono ?_
  rintro e w1 ⟨rfl, hb1⟩
  have HA1 := Lib.hid (HA.out.call hb1)
  obtain ⟨c0, c1, c2, c3, c4, c5, c6⟩ := HA1.out.all
  clear hb1
  cases hr : rightB p with
  | false =>
    clear hr
    go_wp2
    go_ret
    exact ⟨rfl, HA1.out.below⟩
  | true =>
    by_cases h0 : 0 ≤ d
    · have h1' : (p.dests.length : Int) ≤ d := by have := HB.out; rw [hr] at this; simp at this; omega
      clear hr
      go_wp2
      go_ret
      exact ⟨rfl, HA1.out.below⟩
    · have h0' : d < 0 := by omega
      clear hr
      go_wp2
      go_ret
      exact ⟨rfl, HA1.out.below⟩
set_option maxRecDepth 100000 in
set_option maxHeartbeats 2000000 in
theorem rsolve_bad (p : Net) (h : Hd) (f d b : Int) (w : World) (hp : NetR w w.heap.size p h) (hs : Small p) (hb : thereB p d = false) :
    Calls Tryz.prog 11 #[netV p h, .int .i64 f, .int .i64 d, .int .i64 b] w fun e w' => e = .returned (.tuple #[.slice none 0 0, .int .i64 0, .int .i64 1]) ∧ Below w.heap.size w w' := by
  have HA := Lib.hid (AtRight.begin hp)
  have HS := Lib.hid hs
  have HB := Lib.hid hb
  clear hp hs hb
  unfold netV netVal
  go_enter Tryz.func11, Tryz.ntmps11
  go_wp2_with fail
  refine (rstart_bad p h d _ HA.out.net HS.out HB.out).mono ?_
  rintro e w1 ⟨rfl, hb1⟩
  have HA1 := Lib.hid (HA.out.call hb1)
  clear hb1
  go_wp2
  go_ret3
  exact ⟨by rfl, HA1.out.below⟩
set_option maxRecDepth 100000 in
set_option maxHeartbeats 2000000 in
theorem ris_bad (p : Net) (h : Hd) (f d : Int) (Z : List RtZ) (A : Option Addr) (c : Nat) (w : World) (hp : NetR w w.heap.size p h) (hs : Small p) (hl : RtsR w w.heap.size Z A) (hb : thereB p d = false ∨ ¬ FitsQ p (Z.map (·.1))) :
    Calls Tryz.prog 15 #[netV p h, .int .i64 f, .int .i64 d, .slice A Z.length c] w fun e w' => e = .returned (.bool false) ∧ Below w.heap.size w w' := by
  have HA := Lib.hid (AtRight.begin hp)
  have HS := Lib.hid hs
  have HB := Lib.hid hb
  have HL := Lib.hid ((hl.alloc (Nat.le_refl _) (.cells (netCells p h) 30)).more (B' := (w.alloc (.cells (netCells p h) 30)).heap.size) (by rw [World.size_alloc]; exact Nat.le_succ _))
  clear hp hs hb hl
  unfold netV netVal
  go_enter Tryz.func15, Tryz.ntmps15
  go_wp2_with fail
  refine (rfits9_any p h Z A c _ HA.out.net HS.out HL.out).mono ?_
  rintro e w1 ⟨b, rfl, hbq, hb1⟩
  have HA1 := Lib.hid (HA.out.call hb1)
  obtain ⟨c0, c1, c2, c3, c4, c5, c6⟩ := HA1.out.all
  clear hb1
  by_cases h0 : 0 ≤ d
  · by_cases h1 : d < p.dests.length
    · cases b with
      | true =>
        exfalso
        have hq := hbq.1 rfl
        rcases HB.out with h | h
        · have : (rightB p && decide (0 ≤ d ∧ d < p.dests.length)) = false := h
          rw [hq.right] at this
          simp at this
          omega
        · exact h hq
      | false =>
        clear hbq
        go_wp2_with fail
        go_ret
        exact ⟨rfl, HA1.out.below⟩
    · have h1' : (p.dests.length : Int) ≤ d := by omega
      clear hbq h1
      cases b with
      | true =>
        go_wp2_with fail
        go_ret
        exact ⟨rfl, HA1.out.below⟩
      | false =>
        go_wp2_with fail
        go_ret
        exact ⟨rfl, HA1.out.below⟩
  · have h0' : d < 0 := by omega
    clear hbq h0
    cases b with
    | true =>
      go_wp2_with fail
      go_ret
      exact ⟨rfl, HA1.out.below⟩
    | false =>
      go_wp2_with fail
      go_ret
      exact ⟨rfl, HA1.out.below⟩
end

section
theorem FitsQ.good {p : Net} {L : List Rt} (hs : Small p) (q : FitsQ p L) : Good p := good_of2 hs q.right
/-- What fits is what nodes of such a network may hold. -/
theorem FitsQ.st {p : Net} {L : List Rt} (q : FitsQ p L) : ∃ l : St, L = stL p l ∧ FitsF p l := by
  refine ⟨fun i => (L[i]?).getD rtNone, ?_, ?_⟩
  · apply List.ext_getElem?
    intro i
    by_cases hi : i < p.nodes.length
    · rw [stL_at hi, List.getElem?_eq_getElem (by rw [q.len]; exact hi)]
      simp
    · rw [List.getElem?_eq_none (by rw [q.len]; omega), List.getElem?_eq_none (by rw [stL_len]; omega)]
  · intro i
    cases hr : L[i]? with
    | none => simpa [hr] using holds_none p (asOf p i)
    | some r =>
      have h := q.each i r hr
      rw [rfits_good q.right, Bool.and_eq_true] at h
      simpa [hr] using holds_iff.1 h.2
/-- What nodes of such a network may hold fits. -/
theorem FitsQ.of {p : Net} {l : St} (h : rightB p = true) (hf : FitsF p l) : FitsQ p (stL p l) := by
  refine ⟨h, stL_len p l, fun j r hr => ?_⟩
  have hj : j < p.nodes.length := by have := (List.getElem?_eq_some_iff.1 hr).1; rwa [stL_len] at this
  rw [stL_at hj] at hr
  cases hr
  rw [rfits_good h, Bool.and_eq_true]
  refine ⟨?_, holds_iff.2 (hf j)⟩
  unfold placeB
  simp
  omega
end

section
/-- What Is asks, of any network. -/
def IsQ (p : Net) (f d : Int) (L : List Rt) : Prop := thereB p d = true ∧ FitsQ p L ∧ ∃ l : St, L = stL p l ∧ FitsF p l ∧ stL p l = stL p (stepF p f d l)
theorem is_gen (p : Net) (h : Hd) (f d : Int) (Z : List RtZ) (A : Option Addr) (c : Nat) (w : World) (hp : NetR w w.heap.size p h) (hs : Small p) (hl : RtsR w w.heap.size Z A) :
    Calls Tryz.prog 14 #[netV p h, .int .i64 f, .int .i64 d, .slice A Z.length c] w fun e w' => ∃ b : Bool, e = .returned (.bool b) ∧ (b = true → IsQ p f d (Z.map (·.1))) ∧ (b = false → ¬ ∃ l : St, Z.map (·.1) = stL p l ∧ FitsF p l ∧ thereB p d = true ∧ stL p l = stL p (stepF p f d l)) ∧ Below w.heap.size w w' := by
  by_cases hq : thereB p d = true ∧ FitsQ p (Z.map (·.1))
  · obtain ⟨ht, hq⟩ := hq
    obtain ⟨l, hZ, hf⟩ := hq.st
    have hd : placeB d p.dests.length = true := by
      have : (rightB p && placeB d p.dests.length) = true := ht
      rw [Bool.and_eq_true] at this
      exact this.2
    refine (isX_any p h f d l Z A c w hp (hq.good hs) hd hl hZ hf).mono ?_
    rintro e w' ⟨rfl, hb⟩
    refine ⟨_, rfl, fun h1 => ⟨ht, hq, l, hZ, hf, of_decide_eq_true h1⟩, ?_, hb⟩
    rintro h1 ⟨m, hm, -, -, he⟩
    refine of_decide_eq_false h1 ?_
    have hlm : stL p l = stL p m := hZ.symm.trans hm
    have hst : stL p (stepF p f d l) = stL p (stepF p f d m) := stL_step (hq.good hs).lksOk hlm
    rw [hlm, hst]; exact he
  · refine (is_bad p h f d Z A c w hp hs hl ?_).mono ?_
    · by_cases ht : thereB p d = true
      · exact .inr fun h => hq ⟨ht, h⟩
      · exact .inl (by simpa using ht)
    · rintro e w' ⟨rfl, hb⟩
      refine ⟨false, rfl, (fun h => by cases h), ?_, hb⟩
      rintro - ⟨m, hm, hf, ht, -⟩
      refine hq ⟨ht, ?_⟩
      rw [hm]
      have : (rightB p && placeB d p.dests.length) = true := ht
      rw [Bool.and_eq_true] at this
      exact FitsQ.of this.1 hf
end
end Go.Proofs.YtakolnmoieiicaaGreat

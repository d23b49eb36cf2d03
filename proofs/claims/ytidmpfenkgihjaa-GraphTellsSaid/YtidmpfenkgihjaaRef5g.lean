/- The document's own answers of layer 5: Around, Reach, Cuts. -/
import Derived.Test.YtidmpfenkgihjaaRef5h
namespace Go.Proofs.Ytidmpfenkgihjaa
set_option linter.unusedSimpArgs false
set_option linter.unusedVariables false
open Go.RowKit

section
theorem hasB_mod (f : Int) {j : Nat} : hasB (f % 65536) j = hasB f j := by
  by_cases hj : j < 16
  · unfold hasB
    have h1 : decide ((0 : Int) ≤ (j : Int) ∧ (j : Int) < 16) = true := by simp; omega
    rw [h1, Bool.true_and, Bool.true_and]
    have h : j = 0 ∨ j = 1 ∨ j = 2 ∨ j = 3 ∨ j = 4 ∨ j = 5 ∨ j = 6 ∨ j = 7 ∨ j = 8 ∨ j = 9 ∨ j = 10 ∨ j = 11 ∨ j = 12 ∨ j = 13 ∨ j = 14 ∨ j = 15 := by omega
    rcases h with rfl | rfl | rfl | rfl | rfl | rfl | rfl | rfl | rfl | rfl | rfl | rfl | rfl | rfl | rfl | rfl <;>
      (rw [decide_eq_decide]; first | (simp; omega) | (simp; done))
  · rw [hasB_out _ (by omega), hasB_out _ (by omega)]
theorem hasB_plus (f : Int) {j k : Nat} (hk : k < 16) (hf : hasB f k = false) : hasB (f % 65536 + 2 ^ k) j = hasB (withB f (k : Int)) j := by
  rw [hasB_with f hk]
  by_cases hj : j < 16
  · have e2 : BitVec.ofInt 64 (2 ^ k : Int) = BitVec.twoPow 64 k := by
      have h : ∀ k : Fin 16, BitVec.ofInt 64 (2 ^ k.val : Int) = BitVec.twoPow 64 k.val := by decide
      exact h ⟨k, hk⟩
    have hm : (BitVec.ofInt 64 (f % 65536)).getLsbD k = false := by rw [← hasB_bit _ hk, hasB_mod]; exact hf
    rw [hasB_bit _ hj, BitVec.ofInt_add, e2, BitVec.add_eq_or_of_and_eq_zero _ _ (by rw [BitVec.and_twoPow, hm]; rfl), BitVec.getLsbD_or, ← hasB_bit _ hj, hasB_mod, BitVec.getLsbD_twoPow]
    congr 1
    rw [Bool.eq_iff_iff]; simp; omega
  · rw [hasB_out _ (by omega), hasB_out _ (by omega)]
    have : ¬ j = k := by omega
    simp [this]
theorem adj_plus (L : List Lk) (f : Int) {k : Nat} (hk : k < 16) (hf : hasB f k = false) : Adj L (f % 65536 + 2 ^ k) = Adj L (withB f (k : Int)) := by
  funext u v
  simp only [Adj, hasB_plus f hk hf]
theorem hopsV_plus (L : List Lk) (f : Int) {k : Nat} (hk : k < 16) (hf : hasB f k = false) (a b : Nat) : hopsV L (f % 65536 + 2 ^ k) a b = hopsV L (withB f (k : Int)) a b := by
  unfold hopsV
  rw [adj_plus L f hk hf]
theorem hopsV_ex {L : List Lk} {f : Int} {N a b : Nat} (hok : LksOk L N) (ha : a < N) : Gr.IsHops (Adj L f) a b (hopsV L f a b) := by
  obtain ⟨d, h1, -⟩ := Gr.hops_ex (R := Adj L f) (N := N) (fun u v ⟨i, x, hx, _, h⟩ => by have := hok x (List.mem_of_getElem? hx); omega) ha b
  rw [hopsV_is h1]; exact h1
/-- The nodes that are joined, by the distances. -/
theorem reach_hops {L : List Lk} {f : Int} {N a : Nat} (hok : LksOk L N) (ha : a < N) : reachL L f N a = (List.range N).filter fun v => decide (0 ≤ hopsV L f a v) := by
  unfold reachL
  apply List.filter_congr
  intro v _
  rw [decide_eq_decide]
  exact (hopsV_ex hok ha).joined.symm
/-- The nodes below k to which there is a way. -/
noncomputable def rhL (p : Net) (f a : Int) (k : Nat) : List Nat := (List.range k).filter fun v : Nat => decide (0 ≤ hopsG p f a v)
theorem rhL_hit {p : Net} {f a : Int} {k : Nat} (h : 0 ≤ hopsG p f a k) : rhL p f a (k + 1) = rhL p f a k ++ [k] := by simp [rhL, List.range_succ, List.filter_append, h]
theorem rhL_miss {p : Net} {f a : Int} {k : Nat} (h : ¬ 0 ≤ hopsG p f a k) : rhL p f a (k + 1) = rhL p f a k := by simp [rhL, List.range_succ, List.filter_append, h]
theorem rhL_le (p : Net) (f a : Int) (k : Nat) : (rhL p f a k).length ≤ k := by
  have := List.length_filter_le (fun v : Nat => decide (0 ≤ hopsG p f a v)) (List.range k)
  simpa [rhL] using this
theorem rhL_all {p : Net} (hs : Small p) (f a : Int) : rhL p f a p.nodes.length = reachG p f a := by
  unfold rhL reachG
  by_cases h : rightB p = true ∧ placeB a p.nodes.length = true
  · rw [if_pos h]
    have ha : 0 ≤ a ∧ a < p.nodes.length := by have := h.2; simp only [placeB, decide_eq_true_eq] at this; omega
    rw [reach_hops (good_of2 hs h.1).lksOk (by omega)]
    apply List.filter_congr
    intro v hv
    have hv := List.mem_range.1 hv
    unfold hopsG
    rw [if_pos ⟨h.1, h.2, by simp [placeB]; omega⟩]
    simp
  · rw [if_neg h]
    apply List.filter_eq_nil_iff.2
    intro v _
    unfold hopsG
    rw [if_neg (fun q => h ⟨q.1, q.2.1⟩)]
    simp
/-- The network's copy and a list of the call's own. -/
structure NL (w wr : World) (p : Net) (h : Hd) (l : List Nat) (A : Option Addr) (c : Nat) : Prop where
  at_ : AtRight w p h wr
  row : Own wr (w.heap.size + 1) 3 1 A l.length c (nats l)
section
variable {w wr w' : World} {p : Net} {h : Hd} {l : List Nat} {A : Option Addr} {c : Nat}
theorem NL.call (a : NL w wr p h l A c) (hb : Below wr.heap.size wr w') : NL w w' p h l A c := ⟨a.at_.call hb, a.row.call hb⟩
theorem NL.app (a : NL w wr p h l A c) (hp : NetR w w.heap.size p h) {k n : Nat} {A2 : Option Addr} {c2 : Nat} (hn : n = l.length + 1) (hg : wr.grownBy w' (blk A)) (hown : Own w' (w.heap.size + 1) 3 1 A2 n c2 (nats l ++ [.int .i64 (k : Int)])) : NL w w' p h (l ++ [k]) A2 c2 := by
  subst hn
  refine ⟨a.at_.grown hp hg a.row.from_, ?_⟩
  rw [nats_snoc, List.length_append]
  exact hown
theorem NL.post (a : NL w wr p h l A c) : NatsPost l w (.returned (.slice A l.length c)) wr := ⟨A, c, rfl, a.row.more (by omega), a.at_.below⟩
end
set_option maxRecDepth 100000 in
set_option maxHeartbeats 4000000 in
theorem rreach_any (p : Net) (h : Hd) (f a : Int) (w : World) (hp : NetR w w.heap.size p h) (hs : Small p) :
    Calls Try.prog 14 #[netV p h, .int .i64 f, .int .i64 a] w (NatsPost (reachG p f a) w) := by
  have HA := Lib.hid (AtRight.begin hp)
  have HP := Lib.hid hp
  have HS := Lib.hid hs
  have hnl := hs.nodes
  obtain ⟨i0, hi, hz0, hz1, hz2⟩ := info_parts Try.info_int
  have HR := Lib.hid (rhL_all hs f a)
  clear hp hs
  unfold netV netVal
  go_enter Try.func14, Try.ntmps14
  go_wp2_with fail
  go_loopw [7, 8] (fun sl si wx => ∃ (k : Nat) (A : Option Addr) (c : Nat), k ≤ p.nodes.length ∧ si = .int .i64 (k : Int) ∧ sl = .slice A (rhL p f a k).length c ∧ NL w wx p h (rhL p f a k) A c) (fun _ si _ => p.nodes.length - (intOf si).toNat)
  case atStart => exact ⟨0, none, 0, Nat.zero_le _, rfl, rfl, ⟨HA.out, Own.nil _ _ _ _⟩⟩
  case round =>
    clear HA
    obtain ⟨k, A, c, hk, rfl, rfl, hW⟩ := hrel
    have WX := Lib.hid hW
    have hle := rhL_le p f a k
    obtain ⟨c0, c1, c2, c3, c4, c5, c6⟩ := hW.at_.all
    clear hW
    by_cases hlt : k < p.nodes.length
    · by_cases hq : 0 ≤ hopsG p f a k
      · have HH := Lib.hid (rhL_hit hq)
        go_wp2_with fail
        refine (rhops_any p h f a k _ WX.out.at_.net HS.out).mono ?_
        rintro e w1 ⟨rfl, hb1⟩
        have W1 := Lib.hid (WX.out.call hb1)
        clear hb1
        generalize hopsG p f a k = q at *
        generalize rhL p f a k = l at *
        have hsz := W1.out.at_.size
        go_wp2_with (at_builtin; refine wpList_app _ rfl _ _ 22 rfl (w.heap.size + 1) 3 i0 (.int .i64 0) 1 8 Try.underlying22 hi hz0 hz1 hz2 rfl (by decide) _ _ _ (nats l) rfl (by exact W1.out.row.alloc _) _ 1 _ [.int .i64 (k : Int)] rfl (Rd.new (by simp) rfl) (by intro u hu; simp at hu; subst hu; rfl) (by unfold maxLen; omega) (by omega) (by simp; omega) ?_; intro A2 c2 w2 hown2 hgrow2 hblk2 _)
        have W2 := Lib.hid ((W1.out.call ((Below.refl _ _).alloc (Nat.le_refl _) _)).app HP.out rfl hgrow2 hown2)
        go_roundw
        case rel => exact ⟨k + 1, A2, c2, by omega, by go_num, by rw [HH.out]; simp, by rw [HH.out]; exact W2.out⟩
        case measure => simp [intOf]; omega
      · have HH := Lib.hid (rhL_miss hq)
        go_wp2_with fail
        refine (rhops_any p h f a k _ WX.out.at_.net HS.out).mono ?_
        rintro e w1 ⟨rfl, hb1⟩
        have W1 := Lib.hid (WX.out.call hb1)
        clear hb1
        generalize hopsG p f a k = q at *
        go_wp2_with fail
        go_roundw
        case rel => exact ⟨k + 1, A, c, by omega, by go_num, by rw [HH.out], by rw [HH.out]; exact W1.out⟩
        case measure => simp [intOf]; omega
    · have hkN : k = p.nodes.length := by omega
      have HF : Hid (NatsPost (reachG p f a) w (.returned (.slice A (rhL p f a k).length c)) wr) := Lib.hid (by
        rw [← HR.out, ← hkN]; exact WX.out.post)
      clear hkN
      go_wp2
      go_ret
      exact HF.out
set_option maxRecDepth 100000 in
set_option maxHeartbeats 4000000 in
theorem raround_any (p : Net) (h : Hd) (f a : Int) (w : World) (hp : NetR w w.heap.size p h) (hs : Small p) :
    Calls Try.prog 10 #[netV p h, .int .i64 f, .int .i64 a] w (NatsPost (arG p f a) w) := by
  have HA := Lib.hid (AtRight.begin hp)
  have HP := Lib.hid hp
  have HS := Lib.hid hs
  have hll := hs.links
  obtain ⟨i0, hi, hz0, hz1, hz2⟩ := info_parts Try.info_int
  clear hp hs
  unfold netV netVal
  go_enter Try.func10, Try.ntmps10
  go_wp2_with fail
  refine (rright_any p h _ HA.out.net HS.out).mono ?_
  rintro e w1 ⟨rfl, hb1⟩
  have HA1 := Lib.hid (HA.out.call hb1)
  obtain ⟨c0, c1, c2, c3, c4, c5, c6⟩ := HA1.out.all
  clear hb1
  cases hr : rightB p with
  | false =>
    have HF : Hid (∀ w', Below w.heap.size w w' → NatsPost (arG p f a) w (.returned (.slice none 0 0)) w') := Lib.hid (fun w' hb => by
      have : arG p f a = [] := by unfold arG; rw [hr]; rfl
      rw [this]; exact nats_none hb)
    clear hr
    go_upto_region 3 with fail
    go_cut [9] (fun s wx => s = .int .i64 0 ∧ AtRight w p h wx)
    case first =>
      go_wp2_with fail
      go_meet
      case rel => exact ⟨rfl, HA1.out⟩
    case rest =>
    obtain ⟨rfl, hW⟩ := hcut
    obtain ⟨d0, d1, d2, d3, d4, d5, d6⟩ := hW.all
    have HB := Lib.hid hW.below
    clear hW c0 c1 c2 c3 c4 c5 c6 HA1
    rename_i hKl
    refine hKl _ _ ?_
    clear hKl
    go_cut [8] (fun s wx => s = .slice none 0 0 ∧ Below w.heap.size w wx)
    case first =>
      by_cases hl0 : 0 < p.links.length
      · go_wp2_with fail
        refine wp_loop_rounds 1 ?_
        rw [rounds_succ]
        go_wp2_with fail
        go_meet
        case rel => exact ⟨rfl, HB.out⟩
      · have hl0' : p.links.length = 0 := by omega
        go_wp2_with fail
        refine wp_loop_rounds 1 ?_
        rw [rounds_succ]
        go_wp2_with fail
        go_meet
        case rel => exact ⟨rfl, HB.out⟩
    case rest =>
    obtain ⟨rfl, hcw⟩ := hcut
    have HF2 := Lib.hid (HF.out _ hcw)
    clear hcw HB d0 d1 d2 d3 d4 d5 d6
    go_wp2
    go_ret
    exact HF2.out
  | true =>
  have HR : Hid (arL p.links f a p.links.length = arG p f a) := Lib.hid (by unfold arG; rw [if_pos hr])
  clear hr
  go_wp2_with fail
  go_loopw [8, 9] (fun sl si wx => ∃ (k : Nat) (A : Option Addr) (c : Nat), k ≤ p.links.length ∧ si = .int .i64 (k : Int) ∧ sl = .slice A (arL p.links f a k).length c ∧ NL w wx p h (arL p.links f a k) A c) (fun _ si _ => p.links.length - (intOf si).toNat)
  case atStart => exact ⟨0, none, 0, Nat.zero_le _, rfl, by rw [arL_zero]; rfl, ⟨HA1.out, by rw [arL_zero]; exact Own.nil _ _ _ _⟩⟩
  case round =>
    clear HA HA1 c0 c1 c2 c3 c4 c5 c6
    obtain ⟨k, A, c, hk, rfl, rfl, hW⟩ := hrel
    have WX := Lib.hid hW
    have hle := arL_le p.links f a k
    obtain ⟨c0, c1, c2, c3, c4, c5, c6⟩ := hW.at_.all
    clear hW
    by_cases hlt : k < p.links.length
    · obtain ⟨x, hx⟩ : ∃ x, p.links[k]? = some x := ⟨_, List.getElem?_eq_getElem hlt⟩
      have UP : Hid (upB p f (k : Int) = !hasB f k) := Lib.hid (by unfold upB; simp [hlt])
      have HX := Lib.hid hx
      have hk0 : (0 : Int) ≤ (k : Int) := by omega
      have hk1 : (k : Int) < (p.links.length : Int) := by omega
      clear hx
      go_wp2_with fail
      refine (rup_any p h f k _ WX.out.at_.net).mono ?_
      rintro e w1 ⟨rfl, hb1⟩
      rw [UP.out]
      have W1 := Lib.hid (WX.out.call hb1)
      clear hb1 c0 c1 c2 c3 c4 c5 c6
      obtain ⟨c0, c1, c2, c3, c4, c5, c6⟩ := W1.out.at_.all
      obtain ⟨bl, ol, el, hbl, q0, q1, -⟩ := W1.out.at_.net.links.link HX.out
      rw [el] at c4
      clear el hbl
      cases hf : hasB f (k : Int) with
      | true =>
        have HM := Lib.hid (arL_miss (show isAr p.links f a k = false by simp [isAr, HX.out, hf]))
        clear hf
        go_wp2_with fail
        go_roundw
        case rel => exact ⟨k + 1, A, c, by omega, by go_num, by rw [HM.out], by rw [HM.out]; exact W1.out⟩
        case measure => simp [intOf]; omega
      | false =>
      by_cases ha : x.a = a
      · have ha' : (x.a == a) = true := by simp [ha]
        have HM := Lib.hid (arL_hit (show isAr p.links f a k = true by simp [isAr, HX.out, hf, ha]))
        clear hf ha
        generalize arL p.links f a k = l at *
        have hsz := W1.out.at_.size
        go_wp2_with (at_builtin; refine wpList_app _ rfl _ _ 22 rfl (w.heap.size + 1) 3 i0 (.int .i64 0) 1 8 Try.underlying22 hi hz0 hz1 hz2 rfl (by decide) _ _ _ (nats l) rfl (by exact W1.out.row.alloc _) _ 1 _ [.int .i64 (k : Int)] rfl (Rd.new (by simp) rfl) (by intro u hu; simp at hu; subst hu; rfl) (by unfold maxLen; omega) (by omega) (by simp; omega) ?_; intro A2 c2 w2 hown2 hgrow2 hblk2 _)
        have W2 := Lib.hid ((W1.out.call ((Below.refl _ _).alloc (Nat.le_refl _) _)).app HP.out rfl hgrow2 hown2)
        go_roundw
        case rel => exact ⟨k + 1, A2, c2, by omega, by go_num, by rw [HM.out]; simp, by rw [HM.out]; exact W2.out⟩
        case measure => simp [intOf]; omega
      · have ha' : (x.a == a) = false := by simp [ha]
        by_cases hb : x.b = a
        · have hb' : (x.b == a) = true := by simp [hb]
          have HM := Lib.hid (arL_hit (show isAr p.links f a k = true by simp [isAr, HX.out, hf, hb]))
          clear hf ha hb
          generalize arL p.links f a k = l at *
          have hsz := W1.out.at_.size
          go_wp2_with (at_builtin; refine wpList_app _ rfl _ _ 22 rfl (w.heap.size + 1) 3 i0 (.int .i64 0) 1 8 Try.underlying22 hi hz0 hz1 hz2 rfl (by decide) _ _ _ (nats l) rfl (by exact W1.out.row.alloc _) _ 1 _ [.int .i64 (k : Int)] rfl (Rd.new (by simp) rfl) (by intro u hu; simp at hu; subst hu; rfl) (by unfold maxLen; omega) (by omega) (by simp; omega) ?_; intro A2 c2 w2 hown2 hgrow2 hblk2 _)
          have W2 := Lib.hid ((W1.out.call ((Below.refl _ _).alloc (Nat.le_refl _) _)).app HP.out rfl hgrow2 hown2)
          go_roundw
          case rel => exact ⟨k + 1, A2, c2, by omega, by go_num, by rw [HM.out]; simp, by rw [HM.out]; exact W2.out⟩
          case measure => simp [intOf]; omega
        · have hb' : (x.b == a) = false := by simp [hb]
          have HM := Lib.hid (arL_miss (show isAr p.links f a k = false by simp [isAr, HX.out, hf, ha, hb]))
          clear hf ha hb
          go_wp2_with fail
          go_roundw
          case rel => exact ⟨k + 1, A, c, by omega, by go_num, by rw [HM.out], by rw [HM.out]; exact W1.out⟩
          case measure => simp [intOf]; omega
    · have hkN : k = p.links.length := by omega
      have HF : Hid (NatsPost (arG p f a) w (.returned (.slice A (arL p.links f a k).length c)) wr) := Lib.hid (by
        rw [← HR.out, ← hkN]; exact WX.out.post)
      clear hkN
      go_wp2
      go_ret
      exact HF.out
/-- The cuts below k. -/
noncomputable def rcL (p : Net) (f : Int) (k : Nat) : List Nat := cutL p.links f k
set_option maxRecDepth 100000 in
set_option maxHeartbeats 4000000 in
theorem rcuts_any (p : Net) (h : Hd) (f : Int) (w : World) (hp : NetR w w.heap.size p h) (hs : Small p) :
    Calls Try.prog 18 #[netV p h, .int .i64 f] w (NatsPost (cutG p f) w) := by
  have HA := Lib.hid (AtRight.begin hp)
  have HP := Lib.hid hp
  have HS := Lib.hid hs
  have hll := hs.links
  obtain ⟨i0, hi, hz0, hz1, hz2⟩ := info_parts Try.info_int
  clear hp hs
  unfold netV netVal
  go_enter Try.func18, Try.ntmps18
  go_wp2_with fail
  refine (rright_any p h _ HA.out.net HS.out).mono ?_
  rintro e w1 ⟨rfl, hb1⟩
  have HA1 := Lib.hid (HA.out.call hb1)
  obtain ⟨c0, c1, c2, c3, c4, c5, c6⟩ := HA1.out.all
  clear hb1
  cases hr : rightB p with
  | false =>
    have HF : Hid (∀ w', Below w.heap.size w w' → NatsPost (cutG p f) w (.returned (.slice none 0 0)) w') := Lib.hid (fun w' hb => by
      have : cutG p f = [] := by unfold cutG; rw [hr]; rfl
      rw [this]; exact nats_none hb)
    clear hr
    go_upto_region 3 with fail
    go_cut [7] (fun s wx => s = .int .i64 0 ∧ AtRight w p h wx)
    case first =>
      go_wp2_with fail
      go_meet
      case rel => exact ⟨rfl, HA1.out⟩
    case rest =>
    obtain ⟨rfl, hW⟩ := hcut
    obtain ⟨d0, d1, d2, d3, d4, d5, d6⟩ := hW.all
    have HB := Lib.hid hW.below
    clear hW c0 c1 c2 c3 c4 c5 c6 HA1
    rename_i hKl
    refine hKl _ _ ?_
    clear hKl
    go_cut [6] (fun s wx => s = .slice none 0 0 ∧ Below w.heap.size w wx)
    case first =>
      by_cases hl0 : 0 < p.links.length
      · go_wp2_with fail
        refine wp_loop_rounds 1 ?_
        rw [rounds_succ]
        go_wp2_with fail
        go_meet
        case rel => exact ⟨rfl, HB.out⟩
      · have hl0' : p.links.length = 0 := by omega
        go_wp2_with fail
        refine wp_loop_rounds 1 ?_
        rw [rounds_succ]
        go_wp2_with fail
        go_meet
        case rel => exact ⟨rfl, HB.out⟩
    case rest =>
    obtain ⟨rfl, hcw⟩ := hcut
    have HF2 := Lib.hid (HF.out _ hcw)
    clear hcw HB d0 d1 d2 d3 d4 d5 d6
    go_wp2
    go_ret
    exact HF2.out
  | true =>
  have GD := Lib.hid (good_of2 HS.out hr)
  have h16 := GD.out.l16
  have HLO := Lib.hid GD.out.lksOk
  have HR : Hid (cutL p.links f p.links.length = cutG p f) := Lib.hid (by unfold cutG; rw [if_pos hr])
  have HRT := Lib.hid hr
  clear hr
  go_wp2_with fail
  go_loopw [6, 7] (fun sl si wx => ∃ (k : Nat) (A : Option Addr) (c : Nat), k ≤ p.links.length ∧ si = .int .i64 (k : Int) ∧ sl = .slice A (cutL p.links f k).length c ∧ NL w wx p h (cutL p.links f k) A c) (fun _ si _ => p.links.length - (intOf si).toNat)
  case atStart => exact ⟨0, none, 0, Nat.zero_le _, rfl, by simp [cutL], ⟨HA1.out, by simp [cutL]; exact Own.nil _ _ _ _⟩⟩
  case round =>
    clear HA HA1 c0 c1 c2 c3 c4 c5 c6
    obtain ⟨k, A, c, hk, rfl, rfl, hW⟩ := hrel
    have WX := Lib.hid hW
    have hle := cutL_le p.links f k
    obtain ⟨c0, c1, c2, c3, c4, c5, c6⟩ := hW.at_.all
    by_cases hlt : k < p.links.length
    · obtain ⟨⟨xa, xb, xc⟩, hx⟩ : ∃ x, p.links[k]? = some x := ⟨_, List.getElem?_eq_getElem hlt⟩
      have hok := HLO.out _ (List.mem_of_getElem? hx)
      dsimp only at hok
      have UP : Hid (upB p f (k : Int) = !hasB f k) := Lib.hid (by unfold upB; simp [hlt])
      have HX := Lib.hid hx
      have hk0 : (0 : Int) ≤ (k : Int) := by omega
      have hk1 : (k : Int) < (p.links.length : Int) := by omega
      obtain ⟨bl, ol, el, hbl, q0, q1, q2⟩ := hW.at_.net.links.link hx
      dsimp only at q0 q1 q2
      rw [el] at c4
      have W7 := Lib.hid (hW.call ((Below.refl _ _).alloc (Nat.le_refl _) (.cells #[.int .i64 xa, .int .i64 xb, .int .i64 xc] 44)))
      have hv0 : (wr.alloc (.cells #[.int .i64 xa, .int .i64 xb, .int .i64 xc] 44)).cell? ⟨wr.heap.size, 0, none⟩ = some (.int .i64 xa) := by rw [World.cell?_alloc_new]; rfl
      have hv1 : (wr.alloc (.cells #[.int .i64 xa, .int .i64 xb, .int .i64 xc] 44)).cell? ⟨wr.heap.size, 1, none⟩ = some (.int .i64 xb) := by rw [World.cell?_alloc_new]; rfl
      have hbk : wr.heap.size < (wr.alloc (.cells #[.int .i64 xa, .int .i64 xb, .int .i64 xc] 44)).heap.size := by simp
      have HV := Lib.hid (And.intro hv0 (And.intro hv1 hbk))
      clear hx el hW hv0 hv1 hbk
      go_upto_region 7 with fail
      clear q0 q1 q2 c0 c1 c2 c3 c4 c5 c6 hbl WX
      generalize (wr.alloc (.cells #[.int .i64 xa, .int .i64 xb, .int .i64 xc] 44)) = wl at *
      generalize wr.heap.size = bk at *
      have hd0 : NL w wl.drew p h (cutL p.links f k) A c := W7.out.call (below_drew (Below.refl _ _))
      have HC : Hid (∀ wy, Below wl.heap.size wl wy → (wy.cell? ⟨w.heap.size, 0, none⟩ = some (.int .i64 p.proto) ∧ wy.cell? ⟨w.heap.size, 1, none⟩ = some (.int .i64 p.cap) ∧ wy.cell? ⟨w.heap.size, 2, none⟩ = some (.int .i64 p.k) ∧ wy.cell? ⟨w.heap.size, 3, none⟩ = some (.slice h.an p.nodes.length h.cn) ∧
          wy.cell? ⟨w.heap.size, 4, none⟩ = some (.slice h.al p.links.length h.cl) ∧ wy.cell? ⟨w.heap.size, 5, none⟩ = some (.slice h.ad p.dests.length h.cd) ∧ wy.cell? ⟨w.heap.size, 6, none⟩ = some (.slice h.ac p.checks.length h.cc)) ∧ wy.cell? ⟨bk, 0, none⟩ = some (.int .i64 xa) ∧ wy.cell? ⟨bk, 1, none⟩ = some (.int .i64 xb)) := Lib.hid (fun wy hb =>
        ⟨(W7.out.at_.call hb).all, (hb.cell (p := ⟨bk, 0, none⟩) HV.out.2.2).trans HV.out.1, (hb.cell (p := ⟨bk, 1, none⟩) HV.out.2.2).trans HV.out.2.1⟩)
      have hbd : Below wl.heap.size wl wl.drew := below_drew (Below.refl _ _)
      have CU : Hid (∀ wy, Below wl.heap.size wl wy → Calls Try.prog 23 #[.agg #[.int .i64 p.proto, .int .i64 p.cap, .int .i64 p.k, .slice h.an p.nodes.length h.cn, .slice h.al p.links.length h.cl, .slice h.ad p.dests.length h.cd, .slice h.ac p.checks.length h.cc], .int .i64 f, .int .i64 (k : Int)] wy fun e w' => e = .returned (.bool (!hasB f k)) ∧ Below wl.heap.size wl w') := Lib.hid (fun wy hb =>
        (rup_any p h f k wy (W7.out.at_.call hb).net).mono fun e w' ⟨h1, h2⟩ => ⟨by rw [h1, UP.out], since_trans hb h2⟩)
      cases hf : hasB f (k : Int) with
      | true =>
        have HM := Lib.hid (cutL_miss (cutB_has (L := p.links) hf))
        rw [hf] at CU
        clear hf
        refine wp_region_held_drew (S := (fun wx => (wx.cell? ⟨w.heap.size, 0, none⟩ = some (.int .i64 p.proto) ∧ wx.cell? ⟨w.heap.size, 1, none⟩ = some (.int .i64 p.cap) ∧ wx.cell? ⟨w.heap.size, 2, none⟩ = some (.int .i64 p.k) ∧ wx.cell? ⟨w.heap.size, 3, none⟩ = some (.slice h.an p.nodes.length h.cn) ∧ wx.cell? ⟨w.heap.size, 4, none⟩ = some (.slice h.al p.links.length h.cl) ∧ wx.cell? ⟨w.heap.size, 5, none⟩ = some (.slice h.ad p.dests.length h.cd) ∧ wx.cell? ⟨w.heap.size, 6, none⟩ = some (.slice h.ac p.checks.length h.cc)) ∧ wx.cell? ⟨bk, 0, none⟩ = some (.int .i64 xa) ∧ wx.cell? ⟨bk, 1, none⟩ = some (.int .i64 xb))) (by kernel_rfl) (HC.out _ hbd) (fun hHeld0 => ?_)
        refine take_list (i := 0) (v := ?_) rfl (by kernel_rfl) (by kernel_rfl) (by kernel_rfl) (fun _ _ _ h => h) (Or.inl ⟨by rfl, ?_⟩) (by assumption) ?_
        rotate_left
        · (intro w hSw; (try dsimp only at hSw); go_simp; try (with_reducible rfl))
        try simp only [Act.put, List.setIfInBounds_toArray, List.set_cons_zero, List.set_cons_succ]
        refine take_list (i := 1) (v := ?_) rfl (by kernel_rfl) (by kernel_rfl) (by kernel_rfl) (fun _ _ _ h => h) (Or.inl ⟨by rfl, ?_⟩) (by assumption) ?_
        rotate_left
        · (intro w hSw; (try dsimp only at hSw); go_simp; try (with_reducible rfl))
        try simp only [Act.put, List.setIfInBounds_toArray, List.set_cons_zero, List.set_cons_succ]
        refine take_list (i := 2) (v := ?_) rfl (by kernel_rfl) (by kernel_rfl) (by kernel_rfl) (fun _ _ _ h => h) (Or.inl ⟨by rfl, ?_⟩) (by assumption) ?_
        rotate_left
        · (intro w hSw; (try dsimp only at hSw); go_simp; try (with_reducible rfl))
        try simp only [Act.put, List.setIfInBounds_toArray, List.set_cons_zero, List.set_cons_succ]
        refine wpAnyH_ready (rs := [3]) (by kernel_rfl) (by simp) ?_
        refine cons_list rfl (fun K hK => ?_) AllReadyH.nil
        go_simp
        (go_at_call 23; refine (CU.out _ hbd).mono ?_; rintro e w8 ⟨rfl, hb8⟩)
        refine hK.out _ _ (HC.out _ (by assumption)) (fun hHeld1 => ?_)
        clear hK K hHeld0
        try simp only [Act.put, List.setIfInBounds_toArray, List.set_cons_zero, List.set_cons_succ]
        refine take_list (i := 4) (v := ?_) rfl (by kernel_rfl) (by kernel_rfl) (by kernel_rfl) (fun _ _ _ h => h) (Or.inl ⟨by rfl, ?_⟩) (by assumption) ?_
        rotate_left
        · (intro w hSw; (try dsimp only at hSw); go_simp; try (with_reducible rfl))
        try simp only [Act.put, List.setIfInBounds_toArray, List.set_cons_zero, List.set_cons_succ]
        refine take_list (i := 5) (v := undef) rfl (by kernel_rfl) (by kernel_rfl) (by kernel_rfl) (fun _ _ _ h => h) (Or.inr ⟨by rfl, rfl⟩) (by assumption) ?_
        try simp only [Act.put, List.setIfInBounds_toArray, List.set_cons_zero, List.set_cons_succ]
        refine take_list (i := 6) (v := undef) rfl (by kernel_rfl) (by kernel_rfl) (by kernel_rfl) (fun _ _ _ h => h) (Or.inr ⟨by rfl, rfl⟩) (by assumption) ?_
        try simp only [Act.put, List.setIfInBounds_toArray, List.set_cons_zero, List.set_cons_succ]
        refine take_list (i := 7) (v := undef) rfl (by kernel_rfl) (by kernel_rfl) (by kernel_rfl) (fun _ _ _ h => h) (Or.inr ⟨by rfl, rfl⟩) (by assumption) ?_
        try simp only [Act.put, List.setIfInBounds_toArray, List.set_cons_zero, List.set_cons_succ]
        refine take_list (i := 8) (v := undef) rfl (by kernel_rfl) (by kernel_rfl) (by kernel_rfl) (fun _ _ _ h => h) (Or.inr ⟨by rfl, rfl⟩) (by assumption) ?_
        try simp only [Act.put, List.setIfInBounds_toArray, List.set_cons_zero, List.set_cons_succ]
        refine take_list (i := 9) (v := undef) rfl (by kernel_rfl) (by kernel_rfl) (by kernel_rfl) (fun _ _ _ h => h) (Or.inr ⟨by rfl, rfl⟩) (by assumption) ?_
        try simp only [Act.put, List.setIfInBounds_toArray, List.set_cons_zero, List.set_cons_succ]
        refine take_list (i := 10) (v := undef) rfl (by kernel_rfl) (by kernel_rfl) (by kernel_rfl) (fun _ _ _ h => h) (Or.inr ⟨by rfl, rfl⟩) (by assumption) ?_
        try simp only [Act.put, List.setIfInBounds_toArray, List.set_cons_zero, List.set_cons_succ]
        refine take_list (i := 11) (v := undef) rfl (by kernel_rfl) (by kernel_rfl) (by kernel_rfl) (fun _ _ _ h => h) (Or.inr ⟨by rfl, rfl⟩) (by assumption) ?_
        try simp only [Act.put, List.setIfInBounds_toArray, List.set_cons_zero, List.set_cons_succ]
        refine take_list (i := 12) (v := undef) rfl (by kernel_rfl) (by kernel_rfl) (by kernel_rfl) (fun _ _ _ h => h) (Or.inr ⟨by rfl, rfl⟩) (by assumption) ?_
        try simp only [Act.put, List.setIfInBounds_toArray, List.set_cons_zero, List.set_cons_succ]
        refine take_list (i := 13) (v := undef) rfl (by kernel_rfl) (by kernel_rfl) (by kernel_rfl) (fun _ _ _ h => h) (Or.inr ⟨by rfl, rfl⟩) (by assumption) ?_
        try simp only [Act.put, List.setIfInBounds_toArray, List.set_cons_zero, List.set_cons_succ]
        refine take_list (i := 14) (v := undef) rfl (by kernel_rfl) (by kernel_rfl) (by kernel_rfl) (fun _ _ _ h => h) (Or.inr ⟨by rfl, rfl⟩) (by assumption) ?_
        try simp only [Act.put, List.setIfInBounds_toArray, List.set_cons_zero, List.set_cons_succ]
        refine take_list (i := 15) (v := undef) rfl (by kernel_rfl) (by kernel_rfl) (by kernel_rfl) (fun _ _ _ h => h) (Or.inr ⟨by rfl, rfl⟩) (by assumption) ?_
        try simp only [Act.put, List.setIfInBounds_toArray, List.set_cons_zero, List.set_cons_succ]
        refine take_list (i := 16) (v := undef) rfl (by kernel_rfl) (by kernel_rfl) (by kernel_rfl) (fun _ _ _ h => h) (Or.inr ⟨by rfl, rfl⟩) (by assumption) ?_
        try simp only [Act.put, List.setIfInBounds_toArray, List.set_cons_zero, List.set_cons_succ]
        refine take_list (i := 17) (v := ?_) rfl (by kernel_rfl) (by kernel_rfl) (by kernel_rfl) (fun _ _ _ h => h) (Or.inl ⟨by rfl, ?_⟩) (by assumption) ?_
        rotate_left
        · (intro w hSw; (try dsimp only at hSw); go_simp; try (with_reducible rfl))
        try simp only [Act.put, List.setIfInBounds_toArray, List.set_cons_zero, List.set_cons_succ]
        refine wpAnyH_done (by kernel_rfl) ?_ _
        clear hHeld1
        have W8 := Lib.hid (W7.out.call hb8)
        clear hbd hb8 hd0
        go_wp2_with fail
        go_roundw
        case rel => exact ⟨k + 1, A, c, by omega, by go_num, by rw [HM.out], by rw [HM.out]; exact W8.out⟩
        case measure => simp [intOf]; omega
      | false =>
        have HCV : Hid (hopsG p (f % 65536 + 2 ^ k) xa xb = hopsV p.links (withB f (k : Int)) xa.toNat xb.toNat) := Lib.hid (by
          unfold hopsG
          rw [if_pos ⟨HRT.out, by simp [placeB]; omega, by simp [placeB]; omega⟩]
          exact hopsV_plus p.links f (by omega) hf _ _)
        have HCB : Hid (cutB p.links f k = decide (hopsV p.links (withB f (k : Int)) xa.toNat xb.toNat < 0)) := Lib.hid (cutB_of HX.out hf (hopsV_ex (a := xa.toNat) (b := xb.toNat) HLO.out (by omega)))
        have CH : Hid (∀ wy, Below wl.heap.size wl wy → Calls Try.prog 16 #[.agg #[.int .i64 p.proto, .int .i64 p.cap, .int .i64 p.k, .slice h.an p.nodes.length h.cn, .slice h.al p.links.length h.cl, .slice h.ad p.dests.length h.cd, .slice h.ac p.checks.length h.cc], .int .i64 (f % 65536 + 2 ^ k), .int .i64 xa, .int .i64 xb] wy fun e w' => e = .returned (.int .i64 (hopsV p.links (withB f (k : Int)) xa.toNat xb.toNat)) ∧ Below wl.heap.size wl w') := Lib.hid (fun wy hb =>
          (rhops_any p h (f % 65536 + 2 ^ k) xa xb wy (W7.out.at_.call hb).net HS.out).mono fun e w' ⟨h1, h2⟩ => ⟨by rw [h1, HCV.out], since_trans hb h2⟩)
        rw [hf] at CU
        have h2k : (2 : Int) ^ k ≤ 32768 ∧ (0 : Int) ≤ 2 ^ k := by
          have h : ∀ k : Fin 16, (2 : Int) ^ k.val ≤ 32768 ∧ (0 : Int) ≤ 2 ^ k.val := by decide
          exact h ⟨k, by omega⟩
        have hwt : ∀ t : Int, t ≤ 32768 → 0 ≤ t → IntKind.i64.wrap t = t ∧ wrap64 t = t ∧ IntKind.i64.wrap (f % 65536 + t) = f % 65536 + t := by
          intro t h1 h2
          unfold wrap64
          rw [IntKind.wrap_i64, IntKind.wrap_i64]; omega
        obtain ⟨hw1, hw1', hw2⟩ := hwt _ h2k.1 h2k.2
        clear hwt h2k
        clear hf hok
        refine wp_region_held_drew (S := (fun wx => (wx.cell? ⟨w.heap.size, 0, none⟩ = some (.int .i64 p.proto) ∧ wx.cell? ⟨w.heap.size, 1, none⟩ = some (.int .i64 p.cap) ∧ wx.cell? ⟨w.heap.size, 2, none⟩ = some (.int .i64 p.k) ∧ wx.cell? ⟨w.heap.size, 3, none⟩ = some (.slice h.an p.nodes.length h.cn) ∧ wx.cell? ⟨w.heap.size, 4, none⟩ = some (.slice h.al p.links.length h.cl) ∧ wx.cell? ⟨w.heap.size, 5, none⟩ = some (.slice h.ad p.dests.length h.cd) ∧ wx.cell? ⟨w.heap.size, 6, none⟩ = some (.slice h.ac p.checks.length h.cc)) ∧ wx.cell? ⟨bk, 0, none⟩ = some (.int .i64 xa) ∧ wx.cell? ⟨bk, 1, none⟩ = some (.int .i64 xb))) (by kernel_rfl) (HC.out _ hbd) (fun hHeld0 => ?_)
        refine take_list (i := 0) (v := ?_) rfl (by kernel_rfl) (by kernel_rfl) (by kernel_rfl) (fun _ _ _ h => h) (Or.inl ⟨by rfl, ?_⟩) (by assumption) ?_
        rotate_left
        · (intro w hSw; (try dsimp only at hSw); go_simp; try (with_reducible rfl))
        try simp only [Act.put, List.setIfInBounds_toArray, List.set_cons_zero, List.set_cons_succ]
        refine take_list (i := 1) (v := ?_) rfl (by kernel_rfl) (by kernel_rfl) (by kernel_rfl) (fun _ _ _ h => h) (Or.inl ⟨by rfl, ?_⟩) (by assumption) ?_
        rotate_left
        · (intro w hSw; (try dsimp only at hSw); go_simp; try (with_reducible rfl))
        try simp only [Act.put, List.setIfInBounds_toArray, List.set_cons_zero, List.set_cons_succ]
        refine take_list (i := 2) (v := ?_) rfl (by kernel_rfl) (by kernel_rfl) (by kernel_rfl) (fun _ _ _ h => h) (Or.inl ⟨by rfl, ?_⟩) (by assumption) ?_
        rotate_left
        · (intro w hSw; (try dsimp only at hSw); go_simp; try (with_reducible rfl))
        try simp only [Act.put, List.setIfInBounds_toArray, List.set_cons_zero, List.set_cons_succ]
        refine wpAnyH_ready (rs := [3]) (by kernel_rfl) (by simp) ?_
        refine cons_list rfl (fun K hK => ?_) AllReadyH.nil
        go_simp
        (go_at_call 23; refine (CU.out _ hbd).mono ?_; rintro e w8 ⟨rfl, hb8⟩)
        refine hK.out _ _ (HC.out _ (by assumption)) (fun hHeld1 => ?_)
        clear hK K hHeld0
        try simp only [Act.put, List.setIfInBounds_toArray, List.set_cons_zero, List.set_cons_succ]
        refine take_list (i := 4) (v := ?_) rfl (by kernel_rfl) (by kernel_rfl) (by kernel_rfl) (fun _ _ _ h => h) (Or.inl ⟨by rfl, ?_⟩) (by assumption) ?_
        rotate_left
        · (intro w hSw; (try dsimp only at hSw); go_simp; try (with_reducible rfl))
        try simp only [Act.put, List.setIfInBounds_toArray, List.set_cons_zero, List.set_cons_succ]
        refine take_list (i := 5) (v := ?_) rfl (by kernel_rfl) (by kernel_rfl) (by kernel_rfl) (fun _ _ _ h => h) (Or.inl ⟨by rfl, ?_⟩) (by assumption) ?_
        rotate_left
        · (intro w hSw; (try dsimp only at hSw); go_simp; try (with_reducible rfl))
        try simp only [Act.put, List.setIfInBounds_toArray, List.set_cons_zero, List.set_cons_succ]
        refine take_list (i := 6) (v := ?_) rfl (by kernel_rfl) (by kernel_rfl) (by kernel_rfl) (fun _ _ _ h => h) (Or.inl ⟨by rfl, ?_⟩) (by assumption) ?_
        rotate_left
        · (intro w hSw; (try dsimp only at hSw); go_simp; try (with_reducible rfl))
        try simp only [Act.put, List.setIfInBounds_toArray, List.set_cons_zero, List.set_cons_succ]
        refine take_list (i := 8) (v := ?_) rfl (by kernel_rfl) (by kernel_rfl) (by kernel_rfl) (fun _ _ _ h => h) (Or.inl ⟨by rfl, ?_⟩) (by assumption) ?_
        rotate_left
        · (intro w hSw; (try dsimp only at hSw); go_simp; try (with_reducible rfl))
        try simp only [Act.put, List.setIfInBounds_toArray, List.set_cons_zero, List.set_cons_succ]
        refine take_list (i := 9) (v := ?_) rfl (by kernel_rfl) (by kernel_rfl) (by kernel_rfl) (fun _ _ _ h => h) (Or.inl ⟨by rfl, ?_⟩) (by assumption) ?_
        rotate_left
        · (intro w hSw; (try dsimp only at hSw); go_simp; try (with_reducible rfl))
        try simp only [Act.put, List.setIfInBounds_toArray, List.set_cons_zero, List.set_cons_succ]
        refine take_list (i := 11) (v := ?_) rfl (by kernel_rfl) (by kernel_rfl) (by kernel_rfl) (fun _ _ _ h => h) (Or.inl ⟨by rfl, ?_⟩) (by assumption) ?_
        rotate_left
        · (intro w hSw; (try dsimp only at hSw); go_simp; try (with_reducible rfl))
        try simp only [Act.put, List.setIfInBounds_toArray, List.set_cons_zero, List.set_cons_succ]
        refine take_list (i := 12) (v := ?_) rfl (by kernel_rfl) (by kernel_rfl) (by kernel_rfl) (fun _ _ _ h => h) (Or.inl ⟨by rfl, ?_⟩) (by assumption) ?_
        rotate_left
        · (intro w hSw; (try dsimp only at hSw); go_simp; try (with_reducible rfl))
        try simp only [Act.put, List.setIfInBounds_toArray, List.set_cons_zero, List.set_cons_succ]
        refine take_list (i := 13) (v := ?_) rfl (by kernel_rfl) (by kernel_rfl) (by kernel_rfl) (fun _ _ _ h => h) (Or.inl ⟨by rfl, ?_⟩) (by assumption) ?_
        rotate_left
        · (intro w hSw; (try dsimp only at hSw); go_simp; try (with_reducible rfl))
        try simp only [Act.put, List.setIfInBounds_toArray, List.set_cons_zero, List.set_cons_succ]
        refine take_list (i := 14) (v := ?_) rfl (by kernel_rfl) (by kernel_rfl) (by kernel_rfl) (fun _ _ _ h => h) (Or.inl ⟨by rfl, ?_⟩) (by assumption) ?_
        rotate_left
        · (intro w hSw; (try dsimp only at hSw); go_simp; try (with_reducible rfl))
        try simp only [Act.put, List.setIfInBounds_toArray, List.set_cons_zero, List.set_cons_succ]
        refine wpAnyH_ready (rs := [7]) (by kernel_rfl) (by simp) ?_
        refine cons_list rfl (fun K hK => ?_) AllReadyH.nil
        go_simp
        (go_at_call 28; refine (rclean_any f _).mono ?_; rintro e wq ⟨rfl, rfl⟩)
        refine hK.out _ _ (HC.out _ (by assumption)) (fun hHeld2 => ?_)
        clear hK K hHeld1
        try simp only [Act.put, List.setIfInBounds_toArray, List.set_cons_zero, List.set_cons_succ]
        refine take_list (i := 10) (v := ?_) rfl (by kernel_rfl) (by kernel_rfl) (by kernel_rfl) (fun _ _ _ h => h) (Or.inl ⟨by rfl, ?_⟩) (by assumption) ?_
        rotate_left
        · (intro w hSw; (try dsimp only at hSw); go_simp; try (with_reducible rfl))
        try simp only [Act.put, List.setIfInBounds_toArray, List.set_cons_zero, List.set_cons_succ]
        refine wpAnyH_ready (rs := [15]) (by kernel_rfl) (by simp) ?_
        refine cons_list rfl (fun K hK => ?_) AllReadyH.nil
        go_simp
        (go_at_call 16; refine (CH.out _ hb8).mono ?_; rintro e w9 ⟨rfl, hb9⟩)
        refine hK.out _ _ (HC.out _ (by assumption)) (fun hHeld3 => ?_)
        clear hK K hHeld2
        try simp only [Act.put, List.setIfInBounds_toArray, List.set_cons_zero, List.set_cons_succ]
        refine take_list (i := 16) (v := ?_) rfl (by kernel_rfl) (by kernel_rfl) (by kernel_rfl) (fun _ _ _ h => h) (Or.inl ⟨by rfl, ?_⟩) (by assumption) ?_
        rotate_left
        · (intro w hSw; (try dsimp only at hSw); go_simp; try (with_reducible rfl))
        try simp only [Act.put, List.setIfInBounds_toArray, List.set_cons_zero, List.set_cons_succ]
        refine take_list (i := 17) (v := ?_) rfl (by kernel_rfl) (by kernel_rfl) (by kernel_rfl) (fun _ _ _ h => h) (Or.inl ⟨by rfl, ?_⟩) (by assumption) ?_
        rotate_left
        · (intro w hSw; (try dsimp only at hSw); go_simp; try (with_reducible rfl))
        try simp only [Act.put, List.setIfInBounds_toArray, List.set_cons_zero, List.set_cons_succ]
        refine wpAnyH_done (by kernel_rfl) ?_ _
        clear hHeld3
        have W8 := Lib.hid (W7.out.call hb9)
        have hsz := W8.out.at_.size
        clear hbd hb8 hb9 hd0 CH HCV
        generalize hopsV p.links (withB f (k : Int)) xa.toNat xb.toNat = q at *
        by_cases hq : q < 0
        · have HM := Lib.hid (cutL_hit (show cutB p.links f k = true by rw [HCB.out]; simpa using hq))
          clear HCB
          generalize cutL p.links f k = l at *
          go_wp2_with (at_builtin; refine wpList_app _ rfl _ _ 22 rfl (w.heap.size + 1) 3 i0 (.int .i64 0) 1 8 Try.underlying22 hi hz0 hz1 hz2 rfl (by decide) _ _ _ (nats l) rfl (by exact W8.out.row.alloc _) _ 1 _ [.int .i64 (k : Int)] rfl (Rd.new (by simp) rfl) (by intro u hu; simp at hu; subst hu; rfl) (by unfold maxLen; omega) (by omega) (by simp; omega) ?_; intro A2 c2 w2 hown2 hgrow2 hblk2 _)
          have W9 := Lib.hid ((W8.out.call ((Below.refl _ _).alloc (Nat.le_refl _) _)).app HP.out rfl hgrow2 hown2)
          go_roundw
          case rel => exact ⟨k + 1, A2, c2, by omega, by go_num, by rw [HM.out]; simp, by rw [HM.out]; exact W9.out⟩
          case measure => simp [intOf]; omega
        · have HM := Lib.hid (cutL_miss (show cutB p.links f k = false by rw [HCB.out]; simpa using hq))
          clear HCB
          go_wp2_with fail
          go_roundw
          case rel => exact ⟨k + 1, A, c, by omega, by go_num, by rw [HM.out], by rw [HM.out]; exact W8.out⟩
          case measure => simp [intOf]; omega
    · have hkN : k = p.links.length := by omega
      have HF : Hid (NatsPost (cutG p f) w (.returned (.slice A (cutL p.links f k).length c)) wr) := Lib.hid (by
        rw [← HR.out, ← hkN]; exact WX.out.post)
      clear hkN hW
      go_wp2
      go_ret
      exact HF.out
end
end Go.Proofs.Ytidmpfenkgihjaa

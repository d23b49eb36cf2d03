/- The document's own answer of layer 5: Other. -/
import Derived.Test.YtakolnmoieiicaaGreatRef5o
import Derived.Test.YtakolnmoieiicaaGreatFrom
namespace Go.Proofs.YtakolnmoieiicaaGreat
set_option linter.unusedSimpArgs false
set_option linter.unusedVariables false
open Go.RowKit

def rothB (p : Net) (i n : Int) : Int := if rightB p = true then (if 0 ≤ i then (match p.links[i.toNat]? with | some x => othV x.a x.b n | none => -1) else -1) else -1
set_option maxHeartbeats 2000000 in
theorem rother_any (p : Net) (h : Hd) (i n : Int) (w : World) (hp : NetR w w.heap.size p h) (hs : Small p) :
    Calls Tryz.prog 51 #[netV p h, .int .i64 i, .int .i64 n] w fun e w' => e = .returned (.int .i64 (rothB p i n)) ∧ Below w.heap.size w w' := by
  have HA := Lib.hid (AtRight.begin hp)
  have HS := Lib.hid hs
  have hll := hs.links
  clear hp hs
  unfold netV netVal
  go_enter Tryz.func51, Tryz.ntmps51
  go_wp2_with fail
  refine (rright_any p h _ HA.out.net HS.out).mono ?_
  rintro e w1 ⟨rfl, hb1⟩
  have HA1 := Lib.hid (HA.out.call hb1)
  obtain ⟨c0, c1, c2, c3, c4, c5, c6⟩ := HA1.out.all
  clear hb1
  by_cases hr : rightB p = true
  · rw [hr]
    have HR := Lib.hid hr
    clear hr
    by_cases h0 : i < 0
    · have h0' : decide (i < 0) = true := decide_eq_true h0
      have HF := Lib.hid (show (-1 : Int) = rothB p i n from by unfold rothB; rw [if_pos HR.out, if_neg (by omega)])
      clear h0
      go_wp2
      go_ret
      exact ⟨ret_int HF.out, HA1.out.below⟩
    · have h0' : decide (i < 0) = false := decide_eq_false h0
      obtain ⟨k, rfl⟩ : ∃ k : Nat, i = k := ⟨i.toNat, by omega⟩
      by_cases h1 : p.links.length ≤ k
      · have h1' : decide ((p.links.length : Int) ≤ (k : Int)) = true := decide_eq_true (by omega)
        have h1'' : decide (p.links.length ≤ k) = true := decide_eq_true h1
        have HF := Lib.hid (show (-1 : Int) = rothB p k n from by unfold rothB; rw [if_pos HR.out, if_pos (by omega), Int.toNat_natCast, List.getElem?_eq_none h1])
        clear h0 h1
        go_wp2
        go_ret
        exact ⟨ret_int HF.out, HA1.out.below⟩
      · have h1' : decide ((p.links.length : Int) ≤ (k : Int)) = false := decide_eq_false (by omega)
        have h1'' : decide (p.links.length ≤ k) = false := decide_eq_false h1
        have hk : k < p.links.length := by omega
        have hk' : (k : Int) < (p.links.length : Int) := by omega
        have hk0 : (0 : Int) ≤ (k : Int) := by omega
        obtain ⟨x, hx⟩ : ∃ x, p.links[k]? = some x := ⟨_, List.getElem?_eq_getElem hk⟩
        obtain ⟨b, o, el, hb, l0, l1, -⟩ := HA1.out.net.links.link hx
        rw [el] at c4
        have HO := Lib.hid (show rothB p k n = othV x.a x.b n from by unfold rothB; rw [if_pos HR.out, if_pos (by omega), Int.toNat_natCast, hx])
        clear hx el h0 h1
        by_cases ha : n = x.a
        · have ha' : (n == x.a) = true := by simp [ha]
          have HF := Lib.hid (show x.b = rothB p k n from by rw [HO.out]; unfold othV; rw [if_pos ha])
          clear ha
          go_wp2
          go_ret
          exact ⟨ret_int HF.out, HA1.out.below⟩
        · have ha' : (n == x.a) = false := by simp [ha]
          by_cases hb2 : n = x.b
          · have hb' : (n == x.b) = true := by simp [hb2]
            have HF := Lib.hid (show x.a = rothB p k n from by rw [HO.out]; unfold othV; rw [if_neg ha, if_pos hb2])
            clear ha hb2
            go_wp2
            go_ret
            exact ⟨ret_int HF.out, HA1.out.below⟩
          · have hb' : (n == x.b) = false := by simp [hb2]
            have HF := Lib.hid (show (-1 : Int) = rothB p k n from by rw [HO.out]; unfold othV; rw [if_neg ha, if_neg hb2])
            clear ha hb2
            go_wp2
            go_ret
            exact ⟨ret_int HF.out, HA1.out.below⟩
  · have HF := Lib.hid (show (-1 : Int) = rothB p i n from by unfold rothB; rw [if_neg hr])
    have hr : rightB p = false := by simpa using hr
    rw [hr]
    clear hr
    go_wp2
    go_ret
    exact ⟨ret_int HF.out, HA1.out.below⟩
end Go.Proofs.YtakolnmoieiicaaGreat

/- The document's own answers of layers 3 and 6: Digits, Print, Length. -/
import Derived.Test.YtidmpfenkgihjaaDoorAttrA
import Derived.Laws.IdiomStrings
namespace Go.Proofs.YtidmpfenkgihjaaDoor
set_option linter.unusedSimpArgs false
set_option linter.unusedVariables false
open Go.RowKit

def printS (r : Rt) : ByteArray := ⟨(printB r).toArray⟩
theorem digit_facts : ∀ d : Nat, d < 10 → (UInt8.ofNat (48 + d)).toNat = 48 + d := by decide
theorem itoa_small {n : Nat} (h : n < 10) : Lib.itoa (n : Int) = [UInt8.ofNat (48 + n)] := by
  rw [Lib.itoa_nonneg, Lib.decDigits]; simp [h]
theorem itoa_big {n : Nat} (h : ¬ n < 10) : Lib.itoa (n : Int) = Lib.itoa ((n / 10 : Nat) : Int) ++ [UInt8.ofNat (48 + n % 10)] := by
  rw [Lib.itoa_nonneg, Lib.itoa_nonneg, Lib.decDigits]; simp [h]
set_option maxRecDepth 100000 in
set_option maxHeartbeats 2000000 in
theorem rdigits_any : ∀ (n : Nat), n ≤ 65535 → ∀ w : World, Calls Tryd.prog 41 #[.int .i64 (n : Int)] w fun e w' => e = .returned (.string (itoaS n)) ∧ Below w.heap.size w w' := by
  intro n
  induction n using Nat.strongRecOn with
  | _ n ih =>
    intro hn w
    obtain ⟨b, hb⟩ : ∃ b : UInt8, b = UInt8.ofNat (48 + n % 10) := ⟨_, rfl⟩
    have hbn : b.toNat = 48 + n % 10 := by rw [hb]; exact digit_facts _ (by omega)
    have kc := run_convert_bytes_back (P := Tryd.prog) (w.alloc (.cells #[.int .u8 (b.toNat : Int)] 5)) 96 9 5 ⟨w.heap.size, 0, none⟩ 1 [b] Tryd.underlying96 Tryd.underlying5 Tryd.underlying9 (by intro j hj; have : j = 0 := (by simpa using hj); subst this; rw [Addr.add_lit]; exact World.cell?_alloc_new _ _ _ _)
    have hl : ([b] : List UInt8).length = 1 := rfl
    rw [hl] at kc
    have hw : IntKind.u8.wrap (48 + (n : Int) % 10) = (b.toNat : Int) := by rw [hbn]; simp [IntKind.wrap, IntKind.signed, IntKind.bits]; omega
    have hwi : IntKind.i64.wrap (48 + (n : Int) % 10) = 48 + (n : Int) % 10 := by rw [IntKind.wrap_i64]; omega
    by_cases h10 : n < 10
    · have HF := Lib.hid (show itoaS (n : Int) = ⟨#[b]⟩ from by unfold itoaS; rw [itoa_small h10, hb, Nat.mod_eq_of_lt h10])
      have hd : decide ((10 : Int) ≤ (n : Int)) = false := decide_eq_false (by omega)
      clear hb hbn hl ih
      go_enter Tryd.func41, Tryd.ntmps41
      go_wp2_with fail
      go_ret
      exact ⟨by rw [HF.out]; rfl, (Below.refl _ _).alloc (Nat.le_refl _) _⟩
    · have HF := Lib.hid (show itoaS (n : Int) = ⟨(Lib.itoa ((n / 10 : Nat) : Int)).toArray ++ #[b]⟩ from by unfold itoaS; rw [itoa_big h10, hb]; simp)
      have hd : decide ((10 : Int) ≤ (n : Int)) = true := decide_eq_true (by omega)
      have IH := Lib.hid (fun w => ih (n / 10) (by omega) (by omega) w)
      clear hb hbn hl ih
      go_enter Tryd.func41, Tryd.ntmps41
      go_wp2_with fail
      rw [show ((n : Int) / 10) = ((n / 10 : Nat) : Int) from by omega]
      refine (IH.out _).mono ?_
      rintro e w1 ⟨rfl, hb1⟩
      have HL : Hid ((itoaS ((n / 10 : Nat) : Int)).size ≤ 21) := Lib.hid (by have := itoa_len (n := ((n / 10 : Nat) : Int)) (by omega) (by omega); show (Lib.itoa ((n / 10 : Nat) : Int)).toArray.size ≤ 21; rw [List.size_toArray]; omega)
      have HB := Lib.hid (((Below.refl w.heap.size w).alloc (Nat.le_refl _) (.cells #[.int .u8 (b.toNat : Int)] 5)).trans (hb1.mono (by simp)))
      have HS : Hid (itoaS (n : Int) = itoaS ((n / 10 : Nat) : Int) ++ ⟨#[b]⟩) := Lib.hid (by rw [HF.out]; apply bytes_ext; simp [itoaS])
      clear hb1 HF kc
      generalize itoaS ((n / 10 : Nat) : Int) = s at *
      have hls := HL.out
      have hl2 : s.size + (⟨#[b]⟩ : ByteArray).size ≤ 100 := by have : (⟨#[b]⟩ : ByteArray).size = 1 := rfl; omega
      go_wp2_with fail
      go_ret
      exact ⟨by rw [HS.out]; rfl, HB.out⟩
/-- The text so far. -/
def prefS (l : List Int) (k : Nat) : List UInt8 := 91 :: Lib.join ((l.take k).map Lib.itoa) [32]
theorem joinS_snoc (xs : List (List UInt8)) (y : List UInt8) (h : xs ≠ []) : Lib.join (xs ++ [y]) [32] = Lib.join xs [32] ++ [32] ++ y := by
  induction xs with
  | nil => exact absurd rfl h
  | cons x xs ih =>
    cases xs with
    | nil => simp [Lib.join, List.intercalate]
    | cons z xs =>
      have := ih (by simp)
      simp only [Lib.join, List.intercalate, List.cons_append, List.intersperse_cons_cons, List.flatten_cons, List.append_assoc] at this ⊢
      rw [this]
theorem rlength_any (r : Rt) (A : Option Addr) (c : Nat) (w : World) : Calls Tryd.prog 21 #[rtV r A c] w fun e w' => e = .returned (.int .i64 (rtLen r)) ∧ Below w.heap.size w w' := by
  unfold rtV
  by_cases h1 : r.kind = 1
  · have b1 : (r.kind == 1) = true := by simp [h1]
    have HF := Lib.hid (show r.cost = rtLen r from by unfold rtLen; rw [if_pos h1])
    clear h1
    go_enter Tryd.func21, Tryd.ntmps21
    go_wp2
    go_ret
    exact ⟨ret_int HF.out, (Below.refl _ _).alloc (Nat.le_refl _) _⟩
  · have b1 : (r.kind == 1) = false := by simp [h1]
    by_cases h2 : r.kind = 2
    · have b2 : (r.kind == 2) = true := by simp [h2]
      have HF := Lib.hid (show (r.path.length : Int) = rtLen r from by unfold rtLen; rw [if_neg h1, if_pos h2])
      clear h1 h2
      go_enter Tryd.func21, Tryd.ntmps21
      go_wp2
      go_ret
      exact ⟨ret_int HF.out, (Below.refl _ _).alloc (Nat.le_refl _) _⟩
    · have b2 : (r.kind == 2) = false := by simp [h2]
      have HF := Lib.hid (show (-1 : Int) = rtLen r from by unfold rtLen; rw [if_neg h1, if_neg h2])
      clear h1 h2
      go_enter Tryd.func21, Tryd.ntmps21
      go_wp2
      go_ret
      exact ⟨ret_int HF.out, (Below.refl _ _).alloc (Nat.le_refl _) _⟩
set_option maxRecDepth 100000 in
set_option maxHeartbeats 2000000 in
theorem rprint_any (r : Rt) (A : Option Addr) (c : Nat) (w : World) (h : RtR w w.heap.size r A c) (ho : RtOk r) : Calls Tryd.prog 19 #[rtV r A c] w fun e w' => e = .returned (.string (printS r)) ∧ Below w.heap.size w w' := by
  unfold rtV
  have X0 := Lib.hid (Box.new h)
  have HO := Lib.hid ho
  by_cases h1 : r.kind = 1
  · have b1 : (r.kind == 1) = true := by simp [h1]
    have hc := ho.k1 h1
    obtain ⟨n, hn⟩ : ∃ n : Nat, r.cost = n := ⟨r.cost.toNat, by omega⟩
    have HF := Lib.hid (show itoaS (n : Int) = printS r from by unfold printS printB itoaS; rw [if_pos h1, hn])
    have DG := Lib.hid (fun w => rdigits_any n (by omega) w)
    rw [hn]
    have HN := Lib.hid hn
    clear h1 hc hn h ho
    go_enter Tryd.func19, Tryd.ntmps19
    go_wp2_with fail
    refine (DG.out _).mono ?_
    rintro e w1 ⟨rfl, hb1⟩
    rw [HF.out]
    have HB := Lib.hid (((Below.refl w.heap.size w).alloc (Nat.le_refl _) (.cells #[.int .i64 r.kind, .int .i64 (n : Int), .slice A r.path.length c] 41)).trans (hb1.mono (by simp)))
    clear hb1
    go_wp2
    go_ret
    exact ⟨rfl, HB.out⟩
  have b1 : (r.kind == 1) = false := by simp [h1]
  by_cases h2 : r.kind = 2
  rotate_left
  · have b2 : (r.kind == 2) = false := by simp [h2]
    have HF := Lib.hid (show (⟨#[45]⟩ : ByteArray) = printS r from by unfold printS printB; rw [if_neg h1, if_neg h2])
    clear h1 h2 h ho
    go_enter Tryd.func19, Tryd.ntmps19
    go_wp2
    go_ret
    exact ⟨by rw [← HF.out]; rfl, (Below.refl _ _).alloc (Nat.le_refl _) _⟩
  have b2 : (r.kind == 2) = true := by simp [h2]
  have hk2 := ho.k2 h2
  have hl12 : r.path.length ≤ 12 := hk2.2.1
  have HPO := Lib.hid hk2.2.2.2
  have HF : Hid (∀ s : ByteArray, s.data.toList = prefS r.path r.path.length → s ++ (⟨#[93]⟩ : ByteArray) = printS r) := Lib.hid (fun s hs => by
    apply bytes_ext
    unfold printS printB
    rw [if_neg h1, if_pos h2]
    rw [prefS, List.take_length] at hs
    simp [hs])
  have hbw : Below w.heap.size w (w.alloc (.cells #[.int .i64 r.kind, .int .i64 r.cost, .slice A r.path.length c] 41)) := (Below.refl _ _).alloc (Nat.le_refl _) _
  have HBW := Lib.hid hbw
  clear h1 h2 h ho hk2 hbw
  go_enter Tryd.func19, Tryd.ntmps19
  go_upto_region 5 with fail
  generalize (w.alloc (.cells #[.int .i64 r.kind, .int .i64 r.cost, .slice A r.path.length c] 41)) = wb at *
  go_wp2_with fail
  go_loopw [3, 4] (fun ss si wx => ∃ (k : Nat) (s : ByteArray), k ≤ r.path.length ∧ si = .int .i64 (k : Int) ∧ ss = .string s ∧ s.data.toList = prefS r.path k ∧ s.size ≤ 1 + 6 * k ∧ Below wb.heap.size wb wx) (fun _ si _ => r.path.length - (intOf si).toNat)
  case atStart => exact ⟨0, ⟨#[91]⟩, Nat.zero_le _, rfl, rfl, rfl, Nat.le_refl _, Below.refl _ _⟩
  case round =>
    obtain ⟨k, s, hk, rfl, rfl, hs, hsz, hb⟩ := hrel
    have HS := Lib.hid hs
    have BX := Lib.hid (X0.out.call hb)
    have HB := Lib.hid hb
    obtain ⟨q0, q1, q2⟩ := BX.out.at_
    clear hs hb
    by_cases hlt : k < r.path.length
    · obtain ⟨x, hx⟩ : ∃ x, r.path[k]? = some x := ⟨_, List.getElem?_eq_getElem hlt⟩
      have hx2 := HPO.out x (List.mem_of_getElem? hx)
      obtain ⟨n, rfl⟩ : ∃ n : Nat, x = n := ⟨x.toNat, by omega⟩
      obtain ⟨bp, op, el, hbp, hcx⟩ := BX.out.rt.1.one (i := k) (x := .int .i64 (n : Int)) (by simp [ints, hx])
      have DG := Lib.hid (fun w => rdigits_any n (by omega) w)
      have HT : Hid (prefS r.path (k + 1) = if k = 0 then [91] ++ Lib.itoa (n : Int) else prefS r.path k ++ [32] ++ Lib.itoa (n : Int)) := Lib.hid (by
        unfold prefS
        rw [List.take_add_one, hx]
        by_cases hk0 : k = 0
        · subst hk0; simp [Lib.join, List.intercalate]
        · rw [if_neg hk0, List.map_append]
          have hne : (r.path.take k).map Lib.itoa ≠ [] := by
            intro e
            have := congrArg List.length e
            rw [List.length_map, List.length_take, List.length_nil] at this
            omega
          rw [show ((some (n : Int)).toList.map Lib.itoa) = [Lib.itoa (n : Int)] from rfl, joinS_snoc _ _ hne]
          simp)
      have HIL : Hid ((itoaS (n : Int)).size ≤ 5) := Lib.hid (by have := itoa_len (n := (n : Int)) (by omega) (by omega); show (Lib.itoa (n : Int)).toArray.size ≤ 5; rw [List.size_toArray]; omega)
      have hk0' : (0 : Int) ≤ (k : Int) := by omega
      have hk1' : (k : Int) < (r.path.length : Int) := by omega
      have HL : Hid (∀ s1 : ByteArray, s1.data.toList = (if k = 0 then [91] else prefS r.path k ++ [32]) → s1.size ≤ 2 + 6 * k → (s1 ++ itoaS (n : Int)).data.toList = prefS r.path (k + 1) ∧ (s1 ++ itoaS (n : Int)).size ≤ 1 + 6 * (k + 1)) := Lib.hid (fun s1 h1 h2 => by
        constructor
        · rw [HT.out]
          have : (s1 ++ itoaS (n : Int)).data.toList = s1.data.toList ++ Lib.itoa (n : Int) := by simp [itoaS]
          rw [this, h1]
          split <;> rfl
        · have := HIL.out
          rw [ByteArray.size_append]; omega)
      have hil := HIL.out
      rw [el] at q2
      clear hx el hbp
      by_cases hk0 : k = 0
      · have hd0 : decide ((0 : Int) < (k : Int)) = false := decide_eq_false (by omega)
        have hd0' : decide (0 < k) = false := decide_eq_false (by omega)
        have HN := Lib.hid (HL.out s (by rw [if_pos hk0]; have := HS.out; rw [hk0] at this; exact this) (by omega))
        clear hk0 HT HL
        go_wp2_with fail
        refine (DG.out _).mono ?_
        rintro e w2 ⟨rfl, hb2⟩
        have HB2 := Lib.hid (since_trans HB.out hb2)
        clear hb2
        generalize itoaS (n : Int) = t at *
        have hls2 : s.size + t.size ≤ 1000 := by omega
        go_wp2_with fail
        go_roundw
        case rel => exact ⟨k + 1, _, by omega, by go_num, rfl, HN.out.1, HN.out.2, HB2.out⟩
        case measure => simp [intOf]; omega
      · have hd0 : decide ((0 : Int) < (k : Int)) = true := decide_eq_true (by omega)
        have hd0' : decide (0 < k) = true := decide_eq_true (by omega)
        have hls1 : s.size + (⟨#[32]⟩ : ByteArray).size ≤ 1000 := by have : (⟨#[32]⟩ : ByteArray).size = 1 := rfl; omega
        have HN := Lib.hid (HL.out (s ++ ⟨#[32]⟩) (by rw [if_neg hk0, ← HS.out]; simp) (by rw [ByteArray.size_append]; have : (⟨#[32]⟩ : ByteArray).size = 1 := rfl; omega))
        have HSZ : Hid ((s ++ (⟨#[32]⟩ : ByteArray)).size ≤ 100) := Lib.hid (by rw [ByteArray.size_append]; have : (⟨#[32]⟩ : ByteArray).size = 1 := rfl; omega)
        clear hk0 HT HL
        go_upto_region 11 with fail
        generalize s ++ (⟨#[32]⟩ : ByteArray) = s1 at *
        go_wp2_with fail
        refine (DG.out _).mono ?_
        rintro e w2 ⟨rfl, hb2⟩
        have HB2 := Lib.hid (since_trans HB.out hb2)
        clear hb2
        generalize itoaS (n : Int) = t at *
        have hls2 : s1.size + t.size ≤ 1000 := by have := HSZ.out; omega
        go_wp2_with fail
        go_roundw
        case rel => exact ⟨k + 1, _, by omega, by go_num, rfl, HN.out.1, HN.out.2, HB2.out⟩
        case measure => simp [intOf]; omega
    · have hkN : k = r.path.length := by omega
      have hge : ¬ (k : Int) < (r.path.length : Int) := by omega
      have HE := Lib.hid (HF.out s (by rw [← hkN]; exact HS.out))
      have hls1 : s.size + (⟨#[93]⟩ : ByteArray).size ≤ 1000 := by have : (⟨#[93]⟩ : ByteArray).size = 1 := rfl; omega
      clear hkN
      go_wp2_with fail
      go_ret
      exact ⟨by rw [← HE.out]; rfl, since_trans HBW.out HB.out⟩
end Go.Proofs.YtidmpfenkgihjaaDoor

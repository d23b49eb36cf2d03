/- The walks of package lex: what may be a name. -/
import Derived.Test.YtakolnmoieiicaaGreatBase
namespace Go.Proofs.YtakolnmoieiicaaGreat
set_option linter.unusedSimpArgs false
set_option linter.unusedVariables false
open Go.RowKit

def letterB (c : Int) : Bool := decide ((97 ≤ c ∧ c ≤ 122) ∨ (65 ≤ c ∧ c ≤ 90))
def partB (c : Int) : Bool := letterB c || decide ((48 ≤ c ∧ c ≤ 57) ∨ c = 45 ∨ c = 95)

theorem letter_any (c : Int) (w : World) : Calls Tryz.prog 86 #[.int .u8 c] w fun e w' => e = .returned (.bool (letterB c)) ∧ w = w' := by
  rcases (show c < 65 ∨ (65 ≤ c ∧ c ≤ 90) ∨ (91 ≤ c ∧ c < 97) ∨ (97 ≤ c ∧ c ≤ 122) ∨ 122 < c from by omega) with h | ⟨h, h'⟩ | ⟨h, h'⟩ | ⟨h, h'⟩ | h
  all_goals
    go_enter Tryz.func86, Tryz.ntmps86
    go_wp2
    go_ret
    exact ⟨ret_bool (by unfold letterB; first | rfl | (rw [Bool.eq_iff_iff]; simp only [Bool.or_eq_true, Bool.and_eq_true, decide_eq_true_eq, beq_iff_eq, Bool.false_eq_true, false_iff, iff_false, true_iff, iff_true, or_false, false_or, and_true, true_and]; omega)), rfl⟩

theorem part_any (c : Int) (w : World) : Calls Tryz.prog 88 #[.int .u8 c] w fun e w' => e = .returned (.bool (partB c)) ∧ w = w' := by
  by_cases hl : letterB c = true
  · have HP := Lib.hid (show partB c = true from by simp [partB, hl])
    go_enter Tryz.func88, Tryz.ntmps88
    go_wp2_with (go_at_call 86; refine (letter_any _ _).mono ?_; rintro e w' ⟨rfl, rfl⟩)
    go_ret
    exact ⟨ret_bool (by rw [HP.out]), rfl⟩
  · have hl : letterB c = false := by simpa using hl
    rcases (show c < 45 ∨ c = 45 ∨ (45 < c ∧ c < 48) ∨ (48 ≤ c ∧ c ≤ 57) ∨ (57 < c ∧ c < 95) ∨ c = 95 ∨ 95 < c from by omega) with h | h | ⟨h, h'⟩ | ⟨h, h'⟩ | ⟨h, h'⟩ | h | h
    all_goals
      have HP := Lib.hid (show partB c = decide ((48 ≤ c ∧ c ≤ 57) ∨ c = 45 ∨ c = 95) from by simp [partB, hl])
      have h1 : (c == 45) = decide (c = 45) := by rfl
      have h2 : (c == 95) = decide (c = 95) := by rfl
      try subst h
      go_enter Tryz.func88, Tryz.ntmps88
      go_wp2_with (go_at_call 86; refine (letter_any _ _).mono ?_; rintro e w' ⟨rfl, rfl⟩)
      all_goals go_ret
      all_goals exact ⟨ret_bool (by rw [HP.out]; first | rfl | (rw [Bool.eq_iff_iff]; simp only [Bool.or_eq_true, Bool.and_eq_true, decide_eq_true_eq, beq_iff_eq, Bool.false_eq_true, false_iff, iff_false, true_iff, iff_true, or_false, false_or, and_true, true_and]; omega)), rfl⟩
/-- How many bytes a text has ahead that may be of a name: all, or fewer. -/
def allPart (s : ByteArray) : Bool := s.data.toList.all fun c => partB c.toNat

def RunPost (s : ByteArray) (w : World) (e : Ending) (w' : World) : Prop := ∃ r : Int, e = .returned (.int .i64 r) ∧ ((r == s.size) = allPart s) ∧ w = w'

theorem run_any (s : ByteArray) (hs : s.size ≤ 1000) (w : World) : Calls Tryz.prog 87 #[.string s, .func (.func 88) #[] #[]] w (RunPost s w) := by
  go_enter Tryz.func87, Tryz.ntmps87
  go_wp2_with fail
  go_loop [8] (fun i => ∃ k : Nat, k ≤ s.size ∧ i = .int .i64 k ∧ ∀ c ∈ s.data.toList.take k, partB c.toNat = true) (fun i => s.size - (intOf i).toNat)
  case atStart => exact ⟨0, Nat.zero_le _, rfl, by simp⟩
  case round =>
    obtain ⟨k, hk, rfl, hall⟩ := hrel
    have HA := Lib.hid hall
    clear hall
    by_cases hlt : k < s.size
    · have hmem : s[k]'hlt ∈ s.data.toList := by rw [Array.mem_toList_iff]; exact Array.getElem_mem hlt
      have hts : s.data.toList.take (k + 1) = s.data.toList.take k ++ [s[k]'hlt] := by
        rw [List.take_succ_eq_append_getElem (by simpa using hlt)]; rfl
      have HT := Lib.hid hts
      have HM := Lib.hid hmem
      clear hts hmem
      by_cases hp : partB (s[k]'hlt).toNat = true
      · go_wp2_with (go_at_call 88; refine (part_any _ _).mono ?_; rintro e w' ⟨rfl, rfl⟩)
        go_round
        case rel =>
          refine ⟨k + 1, by omega, by go_num, fun c hc => ?_⟩
          rw [HT.out] at hc
          rcases List.mem_append.1 hc with hc | hc
          · exact HA.out c hc
          · simp at hc; subst hc; exact hp
        case measure => simp [intOf]; omega
      · have hp : partB (s[k]'hlt).toNat = false := by simpa using hp
        have hfin : RunPost s w (.returned (.int .i64 k)) w := by
          refine ⟨k, rfl, ?_, rfl⟩
          have h1 : ((k : Int) == (s.size : Int)) = false := by simp; omega
          rw [h1]
          symm
          unfold allPart
          rw [List.all_eq_false]
          exact ⟨_, HM.out, by simp [hp]⟩
        have HF := Lib.hid hfin
        clear hfin
        go_wp2_with (go_at_call 88; refine (part_any _ _).mono ?_; rintro e w' ⟨rfl, rfl⟩)
        go_ret
        exact HF.out
    · have hk' : k = s.size := by omega
      have hfin : RunPost s w (.returned (.int .i64 s.size)) w := by
        refine ⟨s.size, rfl, ?_, rfl⟩
        have h1 : ((s.size : Int) == (s.size : Int)) = true := by simp
        rw [h1]
        symm
        unfold allPart
        rw [List.all_eq_true]
        intro c hc
        exact HA.out c (by rw [List.take_of_length_le (by simp; omega)]; exact hc)
      have HF := Lib.hid hfin
      clear hfin hk'
      go_wp2
      go_ret
      exact HF.out

/-! ### The language's own words -/
/-- Two texts are the same, as the program asks it. -/
def eqS (a b : ByteArray) : Bool := a.toList == b.toList
def strs (l : List ByteArray) : List Value := l.map Value.string

def IndexPost (l : List ByteArray) (s : ByteArray) (w : World) (e : Ending) (w' : World) : Prop := ∃ r : Int, e = .returned (.int .i64 r) ∧ (decide (0 ≤ r) = l.any (eqS s)) ∧ w = w'
theorem index_any (l : List ByteArray) (s : ByteArray) (A : Option Addr) (c : Nat) (B : Nat) (w : World) (h : Rd w B 1 A l.length (strs l)) (hl : l.length ≤ 1000) :
    Calls Tryz.prog 128 #[.slice A l.length c, .string s] w (IndexPost l s w) := by
  go_enter Tryz.func128, Tryz.ntmps128
  go_wp2_with fail
  go_loop [8] (fun i => ∃ k : Nat, k ≤ l.length ∧ i = .int .i64 k ∧ (l.take k).any (eqS s) = false) (fun i => l.length - (intOf i).toNat)
  case atStart => exact ⟨0, Nat.zero_le _, rfl, by simp⟩
  case round =>
    obtain ⟨k, hk, rfl, hall⟩ := hrel
    have HA := Lib.hid hall
    clear hall
    by_cases hlt : k < l.length
    · obtain ⟨x, hx⟩ : ∃ x, l[k]? = some x := ⟨_, List.getElem?_eq_getElem hlt⟩
      obtain ⟨b, o, rfl, hb, hc⟩ := h.one (i := k) (x := .string x) (by simp [strs, hx])
      have HX := Lib.hid hx
      clear hx h
      have hts : l.take (k + 1) = l.take k ++ [x] := by
        rw [List.take_add_one, HX.out]; rfl
      have HT := Lib.hid hts
      clear hts
      by_cases he : (s.toList == x.toList) = true
      · have hfin : IndexPost l s w (.returned (.int .i64 k)) w := by
          refine ⟨k, rfl, ?_, rfl⟩
          have h1 : decide ((0 : Int) ≤ (k : Int)) = true := by simp
          rw [h1]
          symm
          rw [List.any_eq_true]
          exact ⟨x, List.mem_of_getElem? HX.out, he⟩
        have HF := Lib.hid hfin
        clear hfin
        go_wp2
        go_ret
        exact HF.out
      · have he : (s.toList == x.toList) = false := by simpa using he
        go_wp2
        go_round
        case rel => exact ⟨k + 1, by omega, by go_num, by rw [HT.out, List.any_append, HA.out]; simp [eqS, he]⟩
        case measure => simp [intOf]; omega
    · have hfin : IndexPost l s w (.returned (.int .i64 (-1))) w := by
        refine ⟨-1, rfl, ?_, rfl⟩
        have := HA.out
        rw [List.take_of_length_le (by omega)] at this
        rw [this]; simp
      have HF := Lib.hid hfin
      clear hfin h
      go_wp2
      go_ret
      exact HF.out

theorem contains_any (l : List ByteArray) (s : ByteArray) (A : Option Addr) (c : Nat) (B : Nat) (w : World) (h : Rd w B 1 A l.length (strs l)) (hl : l.length ≤ 1000) :
    Calls Tryz.prog 113 #[.slice A l.length c, .string s] w fun e w' => e = .returned (.bool (l.any (eqS s))) ∧ w = w' := by
  go_enter Tryz.func113, Tryz.ntmps113
  go_wp2_with (go_at_call 128; refine (index_any l s A c B _ h hl).mono ?_; rintro e w' ⟨r, rfl, hr, rfl⟩)
  go_ret
  exact ⟨ret_bool (by rw [← hr]), rfl⟩

/-- The language's own words. -/
def kws : List ByteArray := [⟨#[112, 114, 111, 116, 111, 99, 111, 108]⟩, ⟨#[118, 101, 99, 116, 111, 114]⟩, ⟨#[112, 97, 116, 104]⟩, ⟨#[102, 97, 105, 108, 117, 114, 101, 115]⟩, ⟨#[110, 111, 100, 101]⟩, ⟨#[108, 105, 110, 107]⟩, ⟨#[100, 101, 115, 116]⟩, ⟨#[97, 116]⟩, ⟨#[99, 104, 101, 99, 107]⟩, ⟨#[114, 101, 97, 99, 104]⟩, ⟨#[119, 105, 116, 104, 105, 110]⟩, ⟨#[119, 97, 121, 112, 111, 105, 110, 116]⟩, ⟨#[101, 113, 117, 97, 108]⟩]
def kwB (s : ByteArray) : Bool := kws.any (eqS s)

theorem keywords_any (w : World) : Calls Tryz.prog 114 #[] w fun e w' => e = .returned (.slice (some ⟨w.heap.size, 0, none⟩) 13 13) ∧ w' = w.alloc (.cells (strs kws).toArray 9) := by
  go_enter Tryz.func114, Tryz.ntmps114
  go_wp2
  go_ret
  exact ⟨rfl, rfl⟩

theorem keyword_any (s : ByteArray) (w : World) : Calls Tryz.prog 89 #[.string s] w fun e w' => e = .returned (.bool (kwB s)) ∧ Below w.heap.size w w' := by
  go_enter Tryz.func89, Tryz.ntmps89
  go_wp2_with (go_at_call 114; refine (keywords_any _).mono ?_; rintro e w1 ⟨rfl, rfl⟩)
  refine (contains_any kws s (some ⟨w.heap.size, 0, none⟩) 13 _ _ (Rd.new (w := w) (cs := (strs kws).toArray) (e := 9) (m := 13) rfl rfl) (by decide)).mono ?_
  rintro e w1 ⟨rfl, rfl⟩
  go_wp2
  go_ret
  exact ⟨rfl, (Below.refl _ _).alloc (Nat.le_refl _) _⟩

/-- May a text be a name? -/
def nameB (s : ByteArray) : Bool := decide (0 < s.size) && decide (s.size ≤ 12) && (letterB (s.data.toList.headD 0).toNat && allPart s && !kwB s)

theorem head_at {s : ByteArray} (h : 0 < s.size) : s.data.toList.headD 0 = s[0]'h := by
  have h' : 0 < s.data.toList.length := by simpa using h
  obtain ⟨⟨l⟩⟩ := s
  cases l with
  | nil => simp at h'
  | cons a l => rfl

set_option maxHeartbeats 1000000 in
theorem name_any (s : ByteArray) (w : World) : Calls Tryz.prog 64 #[.string s] w fun e w' => e = .returned (.bool (nameB s)) ∧ Below w.heap.size w w' := by
  by_cases h0 : s.size = 0
  · have hb : s.toList.isEmpty = true := by
      rw [ByteArray.toList_eq]
      have : s.data.toList.length = 0 := by simpa using h0
      rw [List.eq_nil_of_length_eq_zero this]; rfl
    have hb2 : s.toList = [] := by simpa using hb
    have HN := Lib.hid (show nameB s = false from by simp [nameB, h0])
    have H0 := Lib.hid h0
    clear h0
    go_enter Tryz.func64, Tryz.ntmps64
    go_wp2
    go_ret
    exact ⟨ret_bool (by rw [HN.out]), Below.refl _ _⟩
  · have hpos : 0 < s.size := by omega
    have hb : s.toList.isEmpty = false := by
      rw [ByteArray.toList_eq]
      have : s.data.toList.length ≠ 0 := by simpa using h0
      cases hs : s.data.toList with
      | nil => rw [hs] at this; simp at this
      | cons a l => rfl
    have hb' : (!s.toList.isEmpty) = true := by simp [hb]
    clear h0
    by_cases h12 : s.size ≤ 12
    · have HD := Lib.hid (head_at hpos)
      have HN0 := Lib.hid (show nameB s = (letterB (s[0]'hpos).toNat && allPart s && !kwB s) from by unfold nameB; rw [head_at hpos]; simp [hpos, h12])
      by_cases hl : letterB (s[0]'hpos).toNat = true
      · have hr : ∀ (w : World), Calls Tryz.prog 87 #[.string s, .func (.func 88) #[] #[]] w (RunPost s w) := run_any s (by omega)
        have HR := Lib.hid hr
        clear hr
        by_cases ha : allPart s = true
        · have HA := Lib.hid ha
          clear ha
          have HN1 := Lib.hid (show nameB s = !kwB s from by rw [HN0.out, hl, HA.out]; rfl)
          go_enter Tryz.func64, Tryz.ntmps64
          go_wp2_with (go_at_call 86; refine (letter_any _ _).mono ?_; rintro e w' ⟨rfl, rfl⟩)
          refine (HR.out _).mono ?_
          rintro e w' ⟨r, rfl, hr, rfl⟩
          rw [HA.out] at hr
          go_wp2_with (go_at_call 89; refine (keyword_any _ _).mono ?_; rintro e w1 ⟨rfl, hbel⟩)
          go_ret
          exact ⟨ret_bool (by rw [HN1.out]), hbel⟩
        · have ha : allPart s = false := by simpa using ha
          have HA := Lib.hid ha
          clear ha
          have HN1 := Lib.hid (show nameB s = false from by rw [HN0.out, hl, HA.out]; rfl)
          go_enter Tryz.func64, Tryz.ntmps64
          go_wp2_with (go_at_call 86; refine (letter_any _ _).mono ?_; rintro e w' ⟨rfl, rfl⟩)
          refine (HR.out _).mono ?_
          rintro e w' ⟨r, rfl, hr, rfl⟩
          rw [HA.out] at hr
          go_wp2
          go_ret
          exact ⟨ret_bool (by rw [HN1.out]), Below.refl _ _⟩
      · have hl : letterB (s[0]'hpos).toNat = false := by simpa using hl
        have HN1 := Lib.hid (show nameB s = false from by rw [HN0.out, hl]; rfl)
        go_enter Tryz.func64, Tryz.ntmps64
        go_wp2_with (go_at_call 86; refine (letter_any _ _).mono ?_; rintro e w' ⟨rfl, rfl⟩)
        go_ret
        exact ⟨ret_bool (by rw [HN1.out]), Below.refl _ _⟩
    · have HN1 := Lib.hid (show nameB s = false from by simp [nameB, h12])
      go_enter Tryz.func64, Tryz.ntmps64
      go_wp2
      go_ret
      exact ⟨ret_bool (by rw [HN1.out]), Below.refl _ _⟩
end Go.Proofs.YtakolnmoieiicaaGreat
